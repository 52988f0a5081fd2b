/- The law on blobs: its walk. -/
import Derived.Test.YthhimlicaiifdaaZ6
import Derived.Test.YthhimlicaiifdaaZ10
import Derived.Test.YthhimlicaiifdaaZ13
import Derived.Test.YthhimlicaiifdaaFrI
import Derived.Laws.StructEq
set_option maxRecDepth 100000
set_option linter.unusedSimpArgs false
set_option linter.unusedVariables false
namespace Fb
open Go Go.RowKit
theorem row_bit_eq (a : Row) (n : Nat) : rowI ((a >>> n) &&& 1#16) = if a.getLsbD n then 1 else 0 := by
  have h := row_bit_beq a n
  have hb : ((a >>> n) &&& 1#16) = 0#16 ∨ ((a >>> n) &&& 1#16) = 1#16 := by
    generalize a >>> n = b
    revert b; decide +kernel
  rcases hb with e | e
  · rw [e] at h ⊢
    have : a.getLsbD n = false := by rw [← h]; decide
    rw [this]; rfl
  · rw [e] at h ⊢
    have : a.getLsbD n = true := by rw [← h]; decide
    rw [this]; rfl
end Fb
namespace Go.Proofs.Ythhimlicaiifdaa
open Go.RowKit Fb
theorem neqBox (x y : Operand) (a b c d : Int) {w : World} : (do eqGuard .neq 54 x y (.agg (boxA a b c d)) (.agg (boxA a b c d)); Go.binOp .neq 54 (.agg (boxA a b c d)) (.agg (boxA a b c d)) : Sem Value).run Try.prog w = .ok (.bool false) w := by
  unfold boxA
  simp [go_sem]
theorem eqlFrF (x y : Operand) {f g : Fr} (h : f ≠ g) {w : World} : (do eqGuard .eql 26 x y (frV f) (frV g); Go.binOp .eql 26 (frV f) (frV g) : Sem Value).run Try.prog w = .ok (.bool false) w := by
  rw [eqlFr]; simp [h]
theorem CodeAt.slice' {w : World} {v : Value} (h : CodeAt w v) : ∃ A n c, v = .slice A n c := by
  obtain ⟨A, c, bs, rfl, _⟩ := h
  exact ⟨_, _, _, rfl⟩
theorem dots_nil_iff {f : Fr} (hf : f.ok = true) : f.dots = [] ↔ Fr.blobs f f = [] := by
  rw [Fr.blobs_nil hf, ← Fr.cnt_zero_iff hf]
  unfold Fr.cnt
  exact List.length_eq_zero_iff.symm
theorem ok_setDot {f : Fr} (hf : f.ok = true) {x y : Nat} (hx : x < 12) (hy : y < 12) (b : Bool) : (setDot f x y b).ok = true := by
  unfold setDot
  cases b
  · exact Fr.ok_strike hf hx hy
  · exact Fr.ok_put (Fr.ok_strike hf hx hy) hx hy

set_option maxHeartbeats 4000000 in
theorem fnBlobs_walk (v1 v2 : Value) (w0 : World) (h1 : CodeAt w0 v1) (h2 : CodeAt w0 v2) : Calls Try.prog 4 #[v1, v2] w0 (RetB (.bool true) w0) := by
  have H1 := Lib.hid h1
  have H2 := Lib.hid h2
  obtain ⟨A1, n1, c1, rfl⟩ := h1.slice'
  obtain ⟨A2, n2, c2, rfl⟩ := h2.slice'
  clear h1 h2
  generalize hn : 433 = n
  subst hn
  refine St.enter Try.func4 rfl (show _ = 433 from rfl) rfl (L := [(0, _), (1, _)]) rfl (fun a S0 => ?_)
  refine wp_seq ?_
  refine wp_region_lit ?_
  refine S0.asg (want_none rfl) rfl rfl rfl rfl (fun a S1 => ?_); clear S0
  refine wpList_n ?_
  refine then_n ?_
  refine wp_seq ?_
  refine wp_seq ?_
  refine wp_region_lit ?_
  refine S1.move (want_none rfl) rfl rfl rfl rfl (fun a S2 => ?_); clear S1
  refine S2.move (want_none rfl) rfl rfl rfl rfl (fun a S3 => ?_); clear S2
  refine S3.call (want_none rfl) rfl rfl rfl rfl Try.call8 (long_any _ _ _ _ _ _ _) (fun e w hR => ?_)
  obtain ⟨p, rfl, rfl⟩ := hR
  refine ⟨_, rfl, fun a A => ?_⟩
  have S4 : St _ _ _ _ _ _ := ⟨A, S3.bag⟩; clear A S3
  refine wpList_n ?_
  refine then_n ?_
  refine S4.either rfl (fun hp => ?_) (fun hp => ?_)
  · skip
    refine wp_seq ?_
    refine wp_region_lit ?_
    refine S4.asg (want_none rfl) rfl rfl rfl rfl (fun a S5 => ?_); clear S4
    refine wpList_n ?_
    refine then_n ?_
    refine wp_ret ?_
    refine then_r ?_
    exact S5.ret1 rfl rfl ⟨rfl, S5.bag.below⟩
  · skip
    refine wp_skip ?_
    refine then_n ?_
    refine wp_seq ?_
    refine wp_region_lit ?_
    refine S4.move (want_none rfl) rfl rfl rfl rfl (fun a S5 => ?_); clear S4
    refine S5.call (want_none rfl) rfl rfl rfl rfl Try.call9 (aFrame_any _ _ (H1.out.below S5.bag.below)) (fun e w hR => ?_)
    obtain ⟨f, rfl, hf, hb⟩ := hR
    refine ⟨_, rfl, fun a A => ?_⟩
    have S6 : St _ _ _ _ _ _ := ⟨A, S5.bag.call hb⟩; clear A S5
    have hbl := Fr.blobs_len hf
    refine S6.allocA (want_none rfl) rfl rfl rfl (Try.zeroValue26 _) cellsZ26 (fun b5 a w hq3 hq4 S7 => ?_); clear S6 hq3 hq4
    refine S7.storeF (want_none rfl) rfl rfl rfl rfl row26 5 rfl (fun a w S8 => ?_); clear S7
    refine wpList_n ?_
    refine then_n ?_
    refine wp_seq ?_
    refine wp_region_lit ?_
    refine S8.loadF (want_none rfl) rfl rfl rfl rfl row26 5 rfl (fun a S9 => ?_); clear S8
    refine S9.call (want_none rfl) rfl rfl rfl rfl Try.call36 (BlobsOf_ok f _ hf) (fun e w hR => ?_)
    obtain ⟨v, rfl, hv, hb⟩ := hR
    refine ⟨_, rfl, fun a A => ?_⟩
    have S10 : St _ _ _ _ _ _ := ⟨A, S9.bag.callRow 6 hb hv⟩; clear A S9
    refine S10.move (want_none rfl) rfl rfl rfl rfl (fun a S11 => ?_); clear S10
    refine S11.extract (want_none rfl) rfl rfl rfl rfl rfl (fun a S12 => ?_); clear S11
    refine S12.extract (want_none rfl) rfl rfl rfl rfl rfl (fun a S13 => ?_); clear S12
    refine S13.asg (want_none rfl) rfl rfl rfl rfl (fun a S14 => ?_); clear S13
    refine S14.asg (want_none rfl) rfl rfl rfl rfl (fun a S15 => ?_); clear S14
    refine wpList_n ?_
    refine then_n ?_
    refine wp_seq ?_
    refine wp_region_lit ?_
    refine S15.loadF (want_none rfl) rfl rfl rfl rfl row26 5 rfl (fun a S16 => ?_); clear S15
    refine S16.call (want_none rfl) rfl rfl rfl rfl Try.call37 (sBlobsOf_ok f _ hf) (fun e w hR => ?_)
    obtain ⟨u, rfl, hu, hb⟩ := hR
    refine ⟨_, rfl, fun a A => ?_⟩
    have S17 : St _ _ _ _ _ _ := ⟨A, S16.bag.callRow 8 hb hu⟩; clear A S16
    obtain ⟨A6, c6, rfl⟩ := (S17.bag.own? 6 rfl).slice
    obtain ⟨A8, c8, rfl⟩ := (S17.bag.own? 8 rfl).slice
    refine S17.move (want_none rfl) rfl rfl rfl rfl (fun a S18 => ?_); clear S17
    refine S18.extract (want_none rfl) rfl rfl rfl rfl rfl (fun a S19 => ?_); clear S18
    refine S19.extract (want_none rfl) rfl rfl rfl rfl rfl (fun a S20 => ?_); clear S19
    refine S20.asg (want_none rfl) rfl rfl rfl rfl (fun a S21 => ?_); clear S20
    refine S21.asg (want_none rfl) rfl rfl rfl rfl (fun a S22 => ?_); clear S21
    refine wpList_n ?_
    refine then_n ?_
    refine wp_seq ?_
    refine wp_region_lit ?_
    refine S22.loadF (want_none rfl) rfl rfl rfl rfl row26 5 rfl (fun a S23 => ?_); clear S22
    refine S23.callB (want_none rfl) rfl rfl rfl rfl Try.call38 (GrowFrame_ok f _ hf) (fun a w hq2 S24 => ?_); clear S23 hq2
    refine S24.move (want_none rfl) rfl rfl rfl rfl (fun a S25 => ?_); clear S24
    refine S25.extract (want_none rfl) rfl rfl rfl rfl rfl (fun a S26 => ?_); clear S25
    refine S26.extract (want_none rfl) rfl rfl rfl rfl rfl (fun a S27 => ?_); clear S26
    refine S27.allocA (want_none rfl) rfl rfl rfl (Try.zeroValue26 _) cellsZ26 (fun b10 a w hq3 hq4 S28 => ?_); clear S27 hq3 hq4
    refine S28.storeF (want_none rfl) rfl rfl rfl rfl row26 10 rfl (fun a w S29 => ?_); clear S28
    refine S29.asg (want_none rfl) rfl rfl rfl rfl (fun a S30 => ?_); clear S29
    refine wpList_n ?_
    refine then_n ?_
    refine wp_seq ?_
    refine wp_region_lit ?_
    refine S30.loadF (want_none rfl) rfl rfl rfl rfl row26 5 rfl (fun a S31 => ?_); clear S30
    refine S31.callB (want_none rfl) rfl rfl rfl rfl Try.call39 (sGrowFrame_ok f _ hf) (fun a w hq2 S32 => ?_); clear S31 hq2
    refine S32.move (want_none rfl) rfl rfl rfl rfl (fun a S33 => ?_); clear S32
    refine S33.extract (want_none rfl) rfl rfl rfl rfl rfl (fun a S34 => ?_); clear S33
    refine S34.extract (want_none rfl) rfl rfl rfl rfl rfl (fun a S35 => ?_); clear S34
    refine S35.allocA (want_none rfl) rfl rfl rfl (Try.zeroValue26 _) cellsZ26 (fun b12 a w hq3 hq4 S36 => ?_); clear S35 hq3 hq4
    refine S36.storeF (want_none rfl) rfl rfl rfl rfl row26 12 rfl (fun a w S37 => ?_); clear S36
    refine S37.asg (want_none rfl) rfl rfl rfl rfl (fun a S38 => ?_); clear S37
    refine wpList_n ?_
    refine then_n ?_
    refine wp_seq ?_
    refine wp_region_lit ?_
    refine S38.loadF (want_none rfl) rfl rfl rfl rfl row26 12 rfl (fun a S39 => ?_); clear S38
    refine S39.callB (want_none rfl) rfl rfl rfl rfl Try.call40 (ShrinkFrame_ok f.grow _ (Fr.ok_grow f)) (fun a w hq2 S40 => ?_); clear S39 hq2
    refine S40.move (want_none rfl) rfl rfl rfl rfl (fun a S41 => ?_); clear S40
    refine S41.extract (want_none rfl) rfl rfl rfl rfl rfl (fun a S42 => ?_); clear S41
    refine S42.extract (want_none rfl) rfl rfl rfl rfl rfl (fun a S43 => ?_); clear S42
    refine S43.allocA (want_none rfl) rfl rfl rfl (Try.zeroValue26 _) cellsZ26 (fun b14 a w hq3 hq4 S44 => ?_); clear S43 hq3 hq4
    refine S44.storeF (want_none rfl) rfl rfl rfl rfl row26 14 rfl (fun a w S45 => ?_); clear S44
    refine S45.asg (want_none rfl) rfl rfl rfl rfl (fun a S46 => ?_); clear S45
    refine wpList_n ?_
    refine then_n ?_
    refine wp_seq ?_
    refine wp_region_lit ?_
    refine S46.loadF (want_none rfl) rfl rfl rfl rfl row26 12 rfl (fun a S47 => ?_); clear S46
    refine S47.callB (want_none rfl) rfl rfl rfl rfl Try.call41 (sShrinkFrame_ok f.grow _ (Fr.ok_grow f)) (fun a w hq2 S48 => ?_); clear S47 hq2
    refine S48.move (want_none rfl) rfl rfl rfl rfl (fun a S49 => ?_); clear S48
    refine S49.extract (want_none rfl) rfl rfl rfl rfl rfl (fun a S50 => ?_); clear S49
    refine S50.extract (want_none rfl) rfl rfl rfl rfl rfl (fun a S51 => ?_); clear S50
    refine S51.allocA (want_none rfl) rfl rfl rfl (Try.zeroValue26 _) cellsZ26 (fun b16 a w hq3 hq4 S52 => ?_); clear S51 hq3 hq4
    refine S52.storeF (want_none rfl) rfl rfl rfl rfl row26 16 rfl (fun a w S53 => ?_); clear S52
    refine S53.asg (want_none rfl) rfl rfl rfl rfl (fun a S54 => ?_); clear S53
    refine wpList_n ?_
    refine then_n ?_
    refine wp_seq ?_
    refine wp_region_lit ?_
    refine S54.loadF (want_none rfl) rfl rfl rfl rfl row26 5 rfl (fun a S55 => ?_); clear S54
    refine S55.loadF (want_none rfl) rfl rfl rfl rfl row26 16 rfl (fun a S56 => ?_); clear S55
    refine S56.callB (want_none rfl) rfl rfl rfl rfl Try.call27 (less_ok f f.grow.shrink _ hf (Fr.ok_shrink _)) (fun a w hq2 S57 => ?_); clear S56 hq2
    refine S57.move (want_none rfl) rfl rfl rfl rfl (fun a S58 => ?_); clear S57
    refine S58.extract (want_none rfl) rfl rfl rfl rfl rfl (fun a S59 => ?_); clear S58
    refine S59.extract (want_none rfl) rfl rfl rfl rfl rfl (fun a S60 => ?_); clear S59
    refine S60.allocA (want_none rfl) rfl rfl rfl (Try.zeroValue26 _) cellsZ26 (fun b18 a w hq3 hq4 S61 => ?_); clear S60 hq3 hq4
    refine S61.storeF (want_none rfl) rfl rfl rfl rfl row26 18 rfl (fun a w S62 => ?_); clear S61
    refine S62.asg (want_none rfl) rfl rfl rfl rfl (fun a S63 => ?_); clear S62
    refine wpList_n ?_
    refine then_n ?_
    refine wp_seq ?_
    refine wp_seq ?_
    refine wp_region_lit ?_
    refine S63.move (want_none rfl) rfl rfl rfl rfl (fun a S64 => ?_); clear S63
    refine S64.move (want_none rfl) rfl rfl rfl rfl (fun a S65 => ?_); clear S64
    refine S65.bin (want_none rfl) rfl rfl rfl rfl rfl (by first | exact neqF Try.underlying2 _ _ _ _ (by omega) | exact neqT Try.underlying2 _ _ _ _ (by omega) | exact neqI Try.underlying2 _ _ _ _) (fun a S66 => ?_); clear S65
    refine S66.move (want_none rfl) rfl rfl rfl rfl (fun a S67 => ?_); clear S66
    refine S67.move (S67.sl.want rfl rfl rfl rfl rfl) rfl rfl rfl rfl (fun a S68 => ?_); clear S67
    refine S68.bin (S68.sl.want rfl rfl rfl rfl rfl) rfl rfl rfl rfl rfl (by first | exact neqF Try.underlying2 _ _ _ _ (by omega) | exact neqT Try.underlying2 _ _ _ _ (by omega) | exact neqI Try.underlying2 _ _ _ _) (fun a S69 => ?_); clear S68
    refine S69.pickF (want_none rfl) rfl rfl rfl rfl rfl (fun a S70 => ?_); clear S69
    refine S70.move (want_none rfl) rfl rfl rfl rfl (fun a S71 => ?_); clear S70
    refine S71.move (S71.sl.want rfl rfl rfl rfl rfl) rfl rfl rfl rfl (fun a S72 => ?_); clear S71
    refine S72.builtin (S72.sl.want rfl rfl rfl rfl rfl) rfl rfl rfl rfl (lenS Try.underlying47 _ _ _ _ _) (fun a S73 => ?_); clear S72
    refine S73.move (S73.sl.want rfl rfl rfl rfl rfl) rfl rfl rfl rfl (fun a S74 => ?_); clear S73
    refine S74.builtin (S74.sl.want rfl rfl rfl rfl rfl) rfl rfl rfl rfl (lenS Try.underlying47 _ _ _ _ _) (fun a S75 => ?_); clear S74
    refine S75.bin (S75.sl.want rfl rfl rfl rfl rfl) rfl rfl rfl rfl rfl (by first | exact neqF Try.underlying3 _ _ _ _ (by omega) | exact neqT Try.underlying3 _ _ _ _ (by omega) | exact neqI Try.underlying3 _ _ _ _) (fun a S76 => ?_); clear S75
    refine S76.pickF (want_none rfl) rfl rfl rfl rfl rfl (fun a S77 => ?_); clear S76
    refine S77.move (want_none rfl) rfl rfl rfl rfl (fun a S78 => ?_); clear S77
    refine S78.move (S78.sl.want rfl rfl rfl rfl rfl) rfl rfl rfl rfl (fun a S79 => ?_); clear S78
    refine S79.move (S79.sl.want rfl rfl rfl rfl rfl) rfl rfl rfl rfl (fun a S80 => ?_); clear S79
    refine S80.bin (S80.sl.want rfl rfl rfl rfl rfl) rfl rfl rfl rfl rfl (by first | exact neqF Try.underlying2 _ _ _ _ (by omega) | exact neqT Try.underlying2 _ _ _ _ (by omega) | exact neqI Try.underlying2 _ _ _ _) (fun a S81 => ?_); clear S80
    refine S81.pickF (want_none rfl) rfl rfl rfl rfl rfl (fun a S82 => ?_); clear S81
    refine S82.move (want_none rfl) rfl rfl rfl rfl (fun a S83 => ?_); clear S82
    refine S83.move (S83.sl.want rfl rfl rfl rfl rfl) rfl rfl rfl rfl (fun a S84 => ?_); clear S83
    refine S84.bin (S84.sl.want rfl rfl rfl rfl rfl) rfl rfl rfl rfl rfl (by first | exact neqF Try.underlying2 _ _ _ _ (by omega) | exact neqT Try.underlying2 _ _ _ _ (by omega) | exact neqI Try.underlying2 _ _ _ _) (fun a S85 => ?_); clear S84
    refine S85.pickF (want_none rfl) rfl rfl rfl rfl rfl (fun a S86 => ?_); clear S85
    refine S86.move (want_none rfl) rfl rfl rfl rfl (fun a S87 => ?_); clear S86
    refine S87.loadF (S87.sl.want rfl rfl rfl rfl rfl) rfl rfl rfl rfl row26 10 rfl (fun a S88 => ?_); clear S87
    refine S88.loadF (S88.sl.want rfl rfl rfl rfl rfl) rfl rfl rfl rfl row26 12 rfl (fun a S89 => ?_); clear S88
    refine S89.bin (S89.sl.want rfl rfl rfl rfl rfl) rfl rfl rfl rfl rfl (neqFrF _ _ (rfl)) (fun a S90 => ?_); clear S89
    refine S90.pickF (want_none rfl) rfl rfl rfl rfl rfl (fun a S91 => ?_); clear S90
    refine S91.move (want_none rfl) rfl rfl rfl rfl (fun a S92 => ?_); clear S91
    refine S92.move (S92.sl.want rfl rfl rfl rfl rfl) rfl rfl rfl rfl (fun a S93 => ?_); clear S92
    refine S93.move (S93.sl.want rfl rfl rfl rfl rfl) rfl rfl rfl rfl (fun a S94 => ?_); clear S93
    refine S94.bin (S94.sl.want rfl rfl rfl rfl rfl) rfl rfl rfl rfl rfl (by first | exact neqF Try.underlying2 _ _ _ _ (by omega) | exact neqT Try.underlying2 _ _ _ _ (by omega) | exact neqI Try.underlying2 _ _ _ _) (fun a S95 => ?_); clear S94
    refine S95.pickF (want_none rfl) rfl rfl rfl rfl rfl (fun a S96 => ?_); clear S95
    refine S96.move (want_none rfl) rfl rfl rfl rfl (fun a S97 => ?_); clear S96
    refine S97.move (S97.sl.want rfl rfl rfl rfl rfl) rfl rfl rfl rfl (fun a S98 => ?_); clear S97
    refine S98.bin (S98.sl.want rfl rfl rfl rfl rfl) rfl rfl rfl rfl rfl (by first | exact neqF Try.underlying2 _ _ _ _ (by omega) | exact neqT Try.underlying2 _ _ _ _ (by omega) | exact neqI Try.underlying2 _ _ _ _) (fun a S99 => ?_); clear S98
    refine S99.pickF (want_none rfl) rfl rfl rfl rfl rfl (fun a S100 => ?_); clear S99
    refine S100.move (want_none rfl) rfl rfl rfl rfl (fun a S101 => ?_); clear S100
    refine S101.loadF (S101.sl.want rfl rfl rfl rfl rfl) rfl rfl rfl rfl row26 14 rfl (fun a S102 => ?_); clear S101
    refine S102.loadF (S102.sl.want rfl rfl rfl rfl rfl) rfl rfl rfl rfl row26 16 rfl (fun a S103 => ?_); clear S102
    refine S103.bin (S103.sl.want rfl rfl rfl rfl rfl) rfl rfl rfl rfl rfl (neqFrF _ _ (rfl)) (fun a S104 => ?_); clear S103
    refine S104.pickF (want_none rfl) rfl rfl rfl rfl rfl (fun a S105 => ?_); clear S104
    refine S105.move (want_none rfl) rfl rfl rfl rfl (fun a S106 => ?_); clear S105
    refine S106.move (S106.sl.want rfl rfl rfl rfl rfl) rfl rfl rfl rfl (fun a S107 => ?_); clear S106
    refine S107.bin (S107.sl.want rfl rfl rfl rfl rfl) rfl rfl rfl rfl rfl (by first | exact neqF Try.underlying2 _ _ _ _ (by omega) | exact neqT Try.underlying2 _ _ _ _ (by omega) | exact neqI Try.underlying2 _ _ _ _) (fun a S108 => ?_); clear S107
    refine S108.pickF (want_none rfl) rfl rfl rfl rfl rfl (fun a S109 => ?_); clear S108
    refine S109.move (want_none rfl) rfl rfl rfl rfl (fun a S110 => ?_); clear S109
    refine S110.loadF (S110.sl.want rfl rfl rfl rfl rfl) rfl rfl rfl rfl row26 18 rfl (fun a S111 => ?_); clear S110
    refine S111.build (S111.sl.want rfl rfl rfl rfl rfl) rfl rfl rfl (by rw [Array.map_empty]; exact zeroFr _) (fun a S112 => ?_); clear S111
    refine S112.bin (S112.sl.want rfl rfl rfl rfl rfl) rfl rfl rfl rfl rfl (neqFrF _ _ ((Fr.grow_shrink hf))) (fun a S113 => ?_); clear S112
    refine S113.pickF (want_none rfl) rfl rfl rfl rfl rfl (fun a S114 => ?_); clear S113
    refine wpList_n ?_
    refine then_n ?_
    refine S114.noB rfl (rfl) ?_
    refine wp_skip ?_
    refine then_n ?_
    refine wp_seq ?_
    refine wp_region_lit ?_
    refine S114.build (want_none rfl) rfl rfl rfl (by rw [Array.map_empty]; exact zeroFr _) (fun a S115 => ?_); clear S114
    refine S115.allocA (want_none rfl) rfl rfl rfl (Try.zeroValue26 _) cellsZ26 (fun b20 a w hq3 hq4 S116 => ?_); clear S115 hq3 hq4
    refine S116.storeF (want_none rfl) rfl rfl rfl rfl row26 20 rfl (fun a w S117 => ?_); clear S116
    refine wpList_n ?_
    refine then_n ?_
    refine wp_seq ?_
    refine wp_seq ?_
    refine wp_region_lit ?_
    refine S117.asg (want_none rfl) rfl rfl rfl rfl (fun a S118 => ?_); clear S117
    refine wpList_n ?_
    refine then_n ?_
    refine wp_block ?_
    refine wp_loopN (fun m a w => ∃ k : Nat, k ≤ (Fr.blobs f f).length ∧ m = (Fr.blobs f f).length - k ∧ St w0 433 [(1, .slice A2 n2 c2), (5, .pointer (some ⟨b5, 0, none⟩)), (6, .slice A6 (Fr.blobs f f).length c6), (8, .slice A8 (Fr.blobs f f).length c8), (20, .pointer (some ⟨b20, 0, none⟩)), (21, .int .i64 (k : Nat))] [(5, blk b5 (frC f) 26), (6, row w0.heap.size 26 frE 12 (.slice A6 (Fr.blobs f f).length c6) (Fr.blobs f f)), (8, row w0.heap.size 26 frE 12 (.slice A8 (Fr.blobs f f).length c8) (Fr.blobs f f)), (20, blk b20 (frC (Fr.joinTo (Fr.blobs f f) k)) 26)] a w) ((Fr.blobs f f).length) (⟨0, by omega, rfl, S118.to ⟨rfl, rfl, rfl, rfl, rfl, rfl, trivial⟩ ⟨rfl, rfl, rfl, rfl, trivial⟩⟩) (fun m a w hI => ?_)
    obtain ⟨k, hk, rfl, S119⟩ := hI
    refine wp_seq ?_
    refine wp_seq ?_
    refine wp_region_lit ?_
    refine S119.move (want_none rfl) rfl rfl rfl rfl (fun a S120 => ?_); clear S119
    refine S120.move (want_none rfl) rfl rfl rfl rfl (fun a S121 => ?_); clear S120
    refine S121.builtin (want_none rfl) rfl rfl rfl rfl (lenS Try.underlying47 _ _ _ _ _) (fun a S122 => ?_); clear S121
    refine S122.bin (want_none rfl) rfl rfl rfl rfl rfl (lssI Try.underlying3 _ _ _ _) (fun a S123 => ?_); clear S122
    refine wpList_n ?_
    refine then_n ?_
    refine S123.either rfl (fun hlt => ?_) (fun hlt => ?_)
    · skip
      refine wp_skip ?_
      refine then_n ?_
      refine wp_seq ?_
      refine wp_block ?_
      refine wp_seq ?_
      refine wp_seq ?_
      have hlt : k < (Fr.blobs f f).length := by have := of_decide_eq_true hlt; omega
      obtain ⟨B, hBk⟩ : ∃ B, (Fr.blobs f f)[k]? = some B := ⟨_, List.getElem?_eq_getElem hlt⟩
      have hmem : B ∈ Fr.blobs f f := List.mem_of_getElem? hBk
      have hG := Fr.blobs_good hf hmem
      have hBok := hG.ok
      have hJok := Fr.ok_joinTo (Fr.blobs_ok hf) k
      have hBne := Fr.blob_dots_ne hf hmem
      have hBd := dots_len B
      have hBpos : 0 < B.dots.length := List.length_pos_iff.2 hBne
      obtain ⟨p1, hp1⟩ : ∃ p, B.dots[0]? = some p := ⟨_, List.getElem?_eq_getElem hBpos⟩
      obtain ⟨ba, rfl⟩ := (S123.bag.own? 6 rfl).some frE_len hBk
      obtain ⟨bc, rfl⟩ := (S123.bag.own? 8 rfl).some frE_len hBk
      refine S123.quiet (by kernel_rfl) (by kernel_rfl) (fun a S124 => ?_)
      clear S123
      refine S124.qmove (want_none rfl) rfl rfl rfl rfl (fun a S125 => ?_); clear S124
      refine S125.qmove (want_none rfl) rfl rfl rfl rfl (fun a S126 => ?_); clear S125
      refine S126.qindexA (want_none rfl) rfl rfl rfl rfl rfl (fun w hC => idxS0 Try.underlying47 size26 _ _ _ _ hlt) (fun a S127 => ?_); clear S126
      refine S127.qload (want_none rfl) rfl rfl rfl rfl (fun w hC => row26.load ((hC.own? 6 rfl).rowFr hBk)) (fun a S128 => ?_); clear S127
      refine S128.qmove (want_none rfl) rfl rfl rfl rfl (fun a S129 => ?_); clear S128
      refine S129.qmove (want_none rfl) rfl rfl rfl rfl (fun a S130 => ?_); clear S129
      refine S130.qindexA (want_none rfl) rfl rfl rfl rfl rfl (fun w hC => idxS0 Try.underlying47 size26 _ _ _ _ hlt) (fun a S131 => ?_); clear S130
      refine S131.qload (want_none rfl) rfl rfl rfl rfl (fun w hC => row26.load ((hC.own? 8 rfl).rowFr hBk)) (fun a S132 => ?_); clear S131
      refine S132.qbin (want_none rfl) rfl rfl rfl rfl rfl (fun w hC => neqFrF _ _ (rfl)) (fun a S133 => ?_); clear S132
      refine S133.qmove (want_none rfl) rfl rfl rfl rfl (fun a S134 => ?_); clear S133
      refine S134.qmove (S134.want rfl rfl rfl rfl rfl) rfl rfl rfl rfl (fun a S135 => ?_); clear S134
      refine S135.qmove (S135.want rfl rfl rfl rfl rfl) rfl rfl rfl rfl (fun a S136 => ?_); clear S135
      refine S136.qindexA (S136.want rfl rfl rfl rfl rfl) rfl rfl rfl rfl rfl (fun w hC => idxS0 Try.underlying47 size26 _ _ _ _ hlt) (fun a S137 => ?_); clear S136
      refine S137.qload (S137.want rfl rfl rfl rfl rfl) rfl rfl rfl rfl (fun w hC => row26.load ((hC.own? 8 rfl).rowFr hBk)) (fun a S138 => ?_); clear S137
      refine S138.qbuild (S138.want rfl rfl rfl rfl rfl) rfl rfl rfl (fun w hC => by rw [Array.map_empty]; exact zeroFr _) (fun a S139 => ?_); clear S138
      refine S139.qbin (S139.want rfl rfl rfl rfl rfl) rfl rfl rfl rfl rfl (fun w hC => eqlFrF _ _ hG.ne) (fun a S140 => ?_); clear S139
      refine S140.qpickF (want_none rfl) rfl rfl rfl rfl rfl (fun a S141 => ?_); clear S140
      refine S141.qend (fun S142 w hB => ?_)
      have S143 : St _ _ _ _ _ _ := ⟨S142, hB⟩
      clear S142
      refine then_n ?_
      refine S143.noB rfl (rfl) ?_
      refine wp_skip ?_
      refine then_n ?_
      refine wp_seq ?_
      refine S143.held (by kernel_rfl) (fun a w => ∃ b22, St w0 433 [(1, .slice A2 n2 c2), (5, .pointer (some ⟨b5, 0, none⟩)), (6, .slice (some ⟨ba, 0, none⟩) (Fr.blobs f f).length c6), (8, .slice (some ⟨bc, 0, none⟩) (Fr.blobs f f).length c8), (20, .pointer (some ⟨b20, 0, none⟩)), (21, .int .i64 (k : Nat)), (22, .pointer (some ⟨b22, 0, none⟩)), (23, .int .i64 0)] [(5, blk b5 (frC f) 26), (6, row w0.heap.size 26 frE 12 (.slice (some ⟨ba, 0, none⟩) (Fr.blobs f f).length c6) (Fr.blobs f f)), (8, row w0.heap.size 26 frE 12 (.slice (some ⟨bc, 0, none⟩) (Fr.blobs f f).length c8) (Fr.blobs f f)), (20, blk b20 (frC (Fr.joinTo (Fr.blobs f f) k)) 26), (22, blk b22 (frC ((Fr.joinTo (Fr.blobs f f) k).meet B)) 26)] a w) ?_ (fun a w S144 hB => ?_)
      rotate_left
      · have hK := hB
        refine S144.hload 0 rfl (by kernel_rfl) (by kernel_rfl) (by kernel_rfl) hB (want_none rfl) rfl rfl rfl rfl (fun w hC => hC.loadR row26 20 rfl (frC_size _)) (fun a S145 => ?_); clear S144
        refine S145.hmove 1 rfl (by kernel_rfl) (by kernel_rfl) (by kernel_rfl) hB (want_none rfl) rfl rfl rfl rfl (fun a S146 => ?_); clear S145
        refine S146.hmove 2 rfl (by kernel_rfl) (by kernel_rfl) (by kernel_rfl) hB (want_none rfl) rfl rfl rfl rfl (fun a S147 => ?_); clear S146
        refine S147.hindexA 3 rfl (by kernel_rfl) (by kernel_rfl) (by kernel_rfl) hB (want_none rfl) rfl rfl rfl rfl rfl (fun w hC => idxS0 Try.underlying47 size26 _ _ _ _ hlt) (fun a S148 => ?_); clear S147
        refine S148.hload 4 rfl (by kernel_rfl) (by kernel_rfl) (by kernel_rfl) hB (want_none rfl) rfl rfl rfl rfl (fun w hC => row26.load ((hC.own? 8 rfl).rowFr hBk)) (fun a S149 => ?_); clear S148
        refine Sl.hany [5, 9] (by kernel_rfl) (by simp) ⟨⟨_, rfl, ?_⟩, ⟨_, rfl, ?_⟩, trivial⟩
        · skip
          have S150 : St _ _ _ _ _ _ := ⟨S149, hK⟩
          clear S149
          refine S150.callB (want_none rfl) rfl rfl rfl rfl Try.call42 (sMeetFrames_ok _ B _ hJok hBok) (fun a w hq2 S151 => ?_); clear S150 hq2
          refine wpList_n ?_
          have hB := S151.bag.base [] trivial
          have hK := S151.bag
          have S152 := S151.sl
          clear S151
          refine nrm_mk ⟨hB, ?_⟩
          refine S152.hmove 6 rfl (by kernel_rfl) (by kernel_rfl) (by kernel_rfl) hB (want_none rfl) rfl rfl rfl rfl (fun a S153 => ?_); clear S152
          refine S153.hextract 7 rfl (by kernel_rfl) (by kernel_rfl) (by kernel_rfl) hB (want_none rfl) rfl rfl rfl rfl rfl (fun a S154 => ?_); clear S153
          refine S154.hextract 8 rfl (by kernel_rfl) (by kernel_rfl) (by kernel_rfl) hB (want_none rfl) rfl rfl rfl rfl rfl (fun a S155 => ?_); clear S154
          refine Sl.hany [9] (by kernel_rfl) (by simp) ⟨⟨_, rfl, ?_⟩, trivial⟩
          have S156 : St _ _ _ _ _ _ := ⟨S155, hK⟩
          clear S155
          refine S156.allocA (want_none rfl) rfl rfl rfl (Try.zeroValue26 _) cellsZ26 (fun b22 a w hq3 hq4 S157 => ?_); clear S156 hq3 hq4
          refine wpList_n ?_
          have hB := S157.bag.base [(22, _)] ⟨rfl, trivial⟩
          have hK := S157.bag
          have S158 := S157.sl
          clear S157
          refine nrm_mk ⟨hB, ?_⟩
          refine Sl.hany [10] (by kernel_rfl) (by simp) ⟨⟨_, rfl, ?_⟩, trivial⟩
          have S159 : St _ _ _ _ _ _ := ⟨S158, hK⟩
          clear S158
          refine S159.storeF (want_none rfl) rfl rfl rfl rfl row26 22 rfl (fun a w S160 => ?_); clear S159
          refine wpList_n ?_
          have hB := S160.bag.base [(22, _), (22, _)] ⟨rfl, rfl, trivial⟩
          have hK := S160.bag
          have S161 := S160.sl
          clear S160
          refine nrm_mk ⟨hB, ?_⟩
          refine S161.hasg 11 rfl (by kernel_rfl) (by kernel_rfl) (by kernel_rfl) hB (want_none rfl) rfl rfl rfl rfl (fun a S162 => ?_); clear S161
          have S163 : St _ _ _ _ _ _ := ⟨S162, hK⟩
          exact hend (by kernel_rfl) (⟨_, S163.to ⟨rfl, rfl, rfl, rfl, rfl, rfl, rfl, rfl, trivial⟩ ⟨rfl, rfl, rfl, rfl, rfl, trivial⟩⟩)
        · skip
          have S150 : St _ _ _ _ _ _ := ⟨S149, hK⟩
          clear S149
          refine S150.allocA (want_none rfl) rfl rfl rfl (Try.zeroValue26 _) cellsZ26 (fun b22 a w hq3 hq4 S151 => ?_); clear S150 hq3 hq4
          refine wpList_n ?_
          have hB := S151.bag.base [(22, _)] ⟨rfl, trivial⟩
          have hK := S151.bag
          have S152 := S151.sl
          clear S151
          refine nrm_mk ⟨hB, ?_⟩
          refine Sl.hany [5] (by kernel_rfl) (by simp) ⟨⟨_, rfl, ?_⟩, trivial⟩
          have S153 : St _ _ _ _ _ _ := ⟨S152, hK⟩
          clear S152
          refine S153.callB (want_none rfl) rfl rfl rfl rfl Try.call42 (sMeetFrames_ok _ B _ hJok hBok) (fun a w hq2 S154 => ?_); clear S153 hq2
          refine wpList_n ?_
          have hB := S154.bag.base [(22, _)] ⟨rfl, trivial⟩
          have hK := S154.bag
          have S155 := S154.sl
          clear S154
          refine nrm_mk ⟨hB, ?_⟩
          refine S155.hmove 6 rfl (by kernel_rfl) (by kernel_rfl) (by kernel_rfl) hB (want_none rfl) rfl rfl rfl rfl (fun a S156 => ?_); clear S155
          refine S156.hextract 7 rfl (by kernel_rfl) (by kernel_rfl) (by kernel_rfl) hB (want_none rfl) rfl rfl rfl rfl rfl (fun a S157 => ?_); clear S156
          refine S157.hextract 8 rfl (by kernel_rfl) (by kernel_rfl) (by kernel_rfl) hB (want_none rfl) rfl rfl rfl rfl rfl (fun a S158 => ?_); clear S157
          refine Sl.hany [10] (by kernel_rfl) (by simp) ⟨⟨_, rfl, ?_⟩, trivial⟩
          have S159 : St _ _ _ _ _ _ := ⟨S158, hK⟩
          clear S158
          refine S159.storeF (want_none rfl) rfl rfl rfl rfl row26 22 rfl (fun a w S160 => ?_); clear S159
          refine wpList_n ?_
          have hB := S160.bag.base [(22, _), (22, _)] ⟨rfl, rfl, trivial⟩
          have hK := S160.bag
          have S161 := S160.sl
          clear S160
          refine nrm_mk ⟨hB, ?_⟩
          refine S161.hasg 11 rfl (by kernel_rfl) (by kernel_rfl) (by kernel_rfl) hB (want_none rfl) rfl rfl rfl rfl (fun a S162 => ?_); clear S161
          have S163 : St _ _ _ _ _ _ := ⟨S162, hK⟩
          exact hend (by kernel_rfl) (⟨_, S163.to ⟨rfl, rfl, rfl, rfl, rfl, rfl, rfl, rfl, trivial⟩ ⟨rfl, rfl, rfl, rfl, rfl, trivial⟩⟩)
      intro a w hP
      obtain ⟨b22, S164⟩ := hP
      refine then_n ?_
      refine wp_seq ?_
      refine wp_region_lit ?_
      refine S164.move (want_none rfl) rfl rfl rfl rfl (fun a S165 => ?_); clear S164
      refine S165.move (want_none rfl) rfl rfl rfl rfl (fun a S166 => ?_); clear S165
      refine S166.indexA (want_none rfl) rfl rfl rfl rfl rfl (idxS0 Try.underlying47 size26 _ _ _ _ hlt) (fun a S167 => ?_); clear S166
      refine S167.loadP (want_none rfl) rfl rfl rfl rfl row26 ((S167.bag.own? 8 rfl).rowFr hBk) (fun a S168 => ?_); clear S167
      refine S168.callB (want_none rfl) rfl rfl rfl rfl Try.call38 (GrowFrame_ok B _ hBok) (fun a w hq2 S169 => ?_); clear S168 hq2
      refine S169.move (want_none rfl) rfl rfl rfl rfl (fun a S170 => ?_); clear S169
      refine S170.extract (want_none rfl) rfl rfl rfl rfl rfl (fun a S171 => ?_); clear S170
      refine S171.extract (want_none rfl) rfl rfl rfl rfl rfl (fun a S172 => ?_); clear S171
      refine S172.allocA (want_none rfl) rfl rfl rfl (Try.zeroValue26 _) cellsZ26 (fun b24 a w hq3 hq4 S173 => ?_); clear S172 hq3 hq4
      refine S173.storeF (want_none rfl) rfl rfl rfl rfl row26 24 rfl (fun a w S174 => ?_); clear S173
      refine S174.asg (want_none rfl) rfl rfl rfl rfl (fun a S175 => ?_); clear S174
      refine wpList_n ?_
      refine then_n ?_
      refine wp_seq ?_
      refine wp_region_lit ?_
      refine S175.loadF (want_none rfl) rfl rfl rfl rfl row26 24 rfl (fun a S176 => ?_); clear S175
      refine S176.loadF (want_none rfl) rfl rfl rfl rfl row26 5 rfl (fun a S177 => ?_); clear S176
      refine S177.callB (want_none rfl) rfl rfl rfl rfl Try.call42 (sMeetFrames_ok B.grow f _ (Fr.ok_grow B) hf) (fun a w hq2 S178 => ?_); clear S177 hq2
      refine S178.move (want_none rfl) rfl rfl rfl rfl (fun a S179 => ?_); clear S178
      refine S179.extract (want_none rfl) rfl rfl rfl rfl rfl (fun a S180 => ?_); clear S179
      refine S180.extract (want_none rfl) rfl rfl rfl rfl rfl (fun a S181 => ?_); clear S180
      refine S181.allocA (want_none rfl) rfl rfl rfl (Try.zeroValue26 _) cellsZ26 (fun b26 a w hq3 hq4 S182 => ?_); clear S181 hq3 hq4
      refine S182.storeF (want_none rfl) rfl rfl rfl rfl row26 26 rfl (fun a w S183 => ?_); clear S182
      refine S183.asg (want_none rfl) rfl rfl rfl rfl (fun a S184 => ?_); clear S183
      refine wpList_n ?_
      refine then_n ?_
      refine wp_seq ?_
      refine wp_seq ?_
      refine S184.quiet (by kernel_rfl) (by kernel_rfl) (fun a S185 => ?_)
      clear S184
      refine S185.qmove (want_none rfl) rfl rfl rfl rfl (fun a S186 => ?_); clear S185
      refine S186.qbin (want_none rfl) rfl rfl rfl rfl rfl (fun w hC => by first | exact neqF Try.underlying2 _ _ _ _ (by omega) | exact neqT Try.underlying2 _ _ _ _ (by omega) | exact neqI Try.underlying2 _ _ _ _) (fun a S187 => ?_); clear S186
      refine S187.qmove (want_none rfl) rfl rfl rfl rfl (fun a S188 => ?_); clear S187
      refine S188.qload (S188.want rfl rfl rfl rfl rfl) rfl rfl rfl rfl (fun w hC => hC.loadR row26 22 rfl (frC_size _)) (fun a S189 => ?_); clear S188
      refine S189.qbuild (S189.want rfl rfl rfl rfl rfl) rfl rfl rfl (fun w hC => by rw [Array.map_empty]; exact zeroFr _) (fun a S190 => ?_); clear S189
      refine S190.qbin (S190.want rfl rfl rfl rfl rfl) rfl rfl rfl rfl rfl (fun w hC => neqFrF _ _ ((Fr.joinTo_apart hf hBk))) (fun a S191 => ?_); clear S190
      refine S191.qpickF (want_none rfl) rfl rfl rfl rfl rfl (fun a S192 => ?_); clear S191
      refine S192.qmove (want_none rfl) rfl rfl rfl rfl (fun a S193 => ?_); clear S192
      refine S193.qmove (S193.want rfl rfl rfl rfl rfl) rfl rfl rfl rfl (fun a S194 => ?_); clear S193
      refine S194.qbin (S194.want rfl rfl rfl rfl rfl) rfl rfl rfl rfl rfl (fun w hC => by first | exact neqF Try.underlying2 _ _ _ _ (by omega) | exact neqT Try.underlying2 _ _ _ _ (by omega) | exact neqI Try.underlying2 _ _ _ _) (fun a S195 => ?_); clear S194
      refine S195.qpickF (want_none rfl) rfl rfl rfl rfl rfl (fun a S196 => ?_); clear S195
      refine S196.qmove (want_none rfl) rfl rfl rfl rfl (fun a S197 => ?_); clear S196
      refine S197.qmove (S197.want rfl rfl rfl rfl rfl) rfl rfl rfl rfl (fun a S198 => ?_); clear S197
      refine S198.qbin (S198.want rfl rfl rfl rfl rfl) rfl rfl rfl rfl rfl (fun w hC => by first | exact neqF Try.underlying2 _ _ _ _ (by omega) | exact neqT Try.underlying2 _ _ _ _ (by omega) | exact neqI Try.underlying2 _ _ _ _) (fun a S199 => ?_); clear S198
      refine S199.qpickF (want_none rfl) rfl rfl rfl rfl rfl (fun a S200 => ?_); clear S199
      refine S200.qmove (want_none rfl) rfl rfl rfl rfl (fun a S201 => ?_); clear S200
      refine S201.qload (S201.want rfl rfl rfl rfl rfl) rfl rfl rfl rfl (fun w hC => hC.loadR row26 26 rfl (frC_size _)) (fun a S202 => ?_); clear S201
      refine S202.qmove (S202.want rfl rfl rfl rfl rfl) rfl rfl rfl rfl (fun a S203 => ?_); clear S202
      refine S203.qmove (S203.want rfl rfl rfl rfl rfl) rfl rfl rfl rfl (fun a S204 => ?_); clear S203
      refine S204.qindexA (S204.want rfl rfl rfl rfl rfl) rfl rfl rfl rfl rfl (fun w hC => idxS0 Try.underlying47 size26 _ _ _ _ hlt) (fun a S205 => ?_); clear S204
      refine S205.qload (S205.want rfl rfl rfl rfl rfl) rfl rfl rfl rfl (fun w hC => row26.load ((hC.own? 8 rfl).rowFr hBk)) (fun a S206 => ?_); clear S205
      refine S206.qbin (S206.want rfl rfl rfl rfl rfl) rfl rfl rfl rfl rfl (fun w hC => neqFrF _ _ ((Fr.blob_beside hf hmem))) (fun a S207 => ?_); clear S206
      refine S207.qpickF (want_none rfl) rfl rfl rfl rfl rfl (fun a S208 => ?_); clear S207
      refine S208.qend (fun S209 w hB => ?_)
      have S210 : St _ _ _ _ _ _ := ⟨S209, hB⟩
      clear S209
      refine then_n ?_
      refine S210.noB rfl (rfl) ?_
      refine wp_skip ?_
      refine then_n ?_
      refine wp_seq ?_
      refine wp_region_lit ?_
      refine S210.move (want_none rfl) rfl rfl rfl rfl (fun a S211 => ?_); clear S210
      refine S211.move (want_none rfl) rfl rfl rfl rfl (fun a S212 => ?_); clear S211
      refine S212.indexA (want_none rfl) rfl rfl rfl rfl rfl (idxS0 Try.underlying47 size26 _ _ _ _ hlt) (fun a S213 => ?_); clear S212
      refine S213.loadP (want_none rfl) rfl rfl rfl rfl row26 ((S213.bag.own? 8 rfl).rowFr hBk) (fun a S214 => ?_); clear S213
      refine S214.call (want_none rfl) rfl rfl rfl rfl Try.call33 (sDotsOf_ok B _ hBok) (fun e w hR => ?_)
      obtain ⟨u, rfl, hu, hb⟩ := hR
      refine ⟨_, rfl, fun a A => ?_⟩
      have S215 : St _ _ _ _ _ _ := ⟨A, S214.bag.callRow 28 hb hu⟩; clear A S214
      obtain ⟨A28, c28, rfl⟩ := (S215.bag.own? 28 rfl).slice
      obtain ⟨bd, rfl⟩ := (S215.bag.own? 28 rfl).some dotE_len hp1
      refine S215.move (want_none rfl) rfl rfl rfl rfl (fun a S216 => ?_); clear S215
      refine S216.extract (want_none rfl) rfl rfl rfl rfl rfl (fun a S217 => ?_); clear S216
      refine S217.extract (want_none rfl) rfl rfl rfl rfl rfl (fun a S218 => ?_); clear S217
      refine S218.asg (want_none rfl) rfl rfl rfl rfl (fun a S219 => ?_); clear S218
      refine S219.asg (want_none rfl) rfl rfl rfl rfl (fun a S220 => ?_); clear S219
      refine wpList_n ?_
      refine then_n ?_
      refine wp_seq ?_
      refine wp_seq ?_
      refine wp_region_lit ?_
      refine S220.move (want_none rfl) rfl rfl rfl rfl (fun a S221 => ?_); clear S220
      refine S221.bin (want_none rfl) rfl rfl rfl rfl rfl (by first | exact neqF Try.underlying2 _ _ _ _ (by omega) | exact neqT Try.underlying2 _ _ _ _ (by omega) | exact neqI Try.underlying2 _ _ _ _) (fun a S222 => ?_); clear S221
      refine S222.move (want_none rfl) rfl rfl rfl rfl (fun a S223 => ?_); clear S222
      refine S223.move (S223.sl.want rfl rfl rfl rfl rfl) rfl rfl rfl rfl (fun a S224 => ?_); clear S223
      refine S224.builtin (S224.sl.want rfl rfl rfl rfl rfl) rfl rfl rfl rfl (lenS Try.underlying42 _ _ _ _ _) (fun a S225 => ?_); clear S224
      refine S225.bin (S225.sl.want rfl rfl rfl rfl rfl) rfl rfl rfl rfl rfl (by first | exact eqlF Try.underlying3 _ _ _ _ (by omega) | exact eqlT Try.underlying3 _ _ _ _ (by omega) | exact eqlI Try.underlying3 _ _ _ _) (fun a S226 => ?_); clear S225
      refine S226.pickF (want_none rfl) rfl rfl rfl rfl rfl (fun a S227 => ?_); clear S226
      refine wpList_n ?_
      refine then_n ?_
      refine S227.noB rfl (rfl) ?_
      refine wp_skip ?_
      refine then_n ?_
      refine wp_seq ?_
      refine wp_region_lit ?_
      refine S227.move (want_none rfl) rfl rfl rfl rfl (fun a S228 => ?_); clear S227
      refine S228.move (want_none rfl) rfl rfl rfl rfl (fun a S229 => ?_); clear S228
      refine S229.move (want_none rfl) rfl rfl rfl rfl (fun a S230 => ?_); clear S229
      refine S230.move (want_none rfl) rfl rfl rfl rfl (fun a S231 => ?_); clear S230
      refine S231.builtin (want_none rfl) rfl rfl rfl rfl (lenS Try.underlying42 _ _ _ _ _) (fun a S232 => ?_); clear S231
      refine S232.call (want_none rfl) rfl rfl rfl rfl Try.call21 (at_any _ k B.dots.length (by omega) (by omega) _ (H2.out.below S232.bag.below)) (fun e w hR => ?_)
      obtain ⟨r, rfl, hr1, hr2, rfl⟩ := hR
      refine ⟨_, rfl, fun a A => ?_⟩
      have S233 : St _ _ _ _ _ _ := ⟨A, S232.bag⟩; clear A S232
      obtain ⟨m, rfl⟩ := Int.eq_ofNat_of_zero_le hr1
      have hm : m < B.dots.length := by omega
      obtain ⟨p, hp2⟩ : ∃ p, B.dots[m]? = some p := ⟨_, List.getElem?_eq_getElem hm⟩
      have hin := dots_in hp2
      have hmd : p ∈ B.dots := List.mem_of_getElem? hp2
      obtain ⟨px, py⟩ := p
      have hq1 : px < 12 := hin.1
      have hq2 : py < 12 := hin.2
      have hpd := ((Fr.mem_dots B px py).1 hmd).2.2
      have hbd := Fr.blob_of_dot hf hmem hq1 hq2 hpd
      refine S233.indexA (want_none rfl) rfl rfl rfl rfl rfl (idxS0 Try.underlying42 size52 _ _ _ _ hm) (fun a S234 => ?_); clear S233
      refine S234.loadP (want_none rfl) rfl rfl rfl rfl row52 ((S234.bag.own? 28 rfl).row dotE_len hp2 (by decide)) (fun a S235 => ?_); clear S234
      refine S235.allocA (want_none rfl) rfl rfl rfl (Try.zeroValue52 _) rfl (fun b30 a w hq3 hq4 S236 => ?_); clear S235 hq3 hq4
      refine S236.storeR (want_none rfl) rfl rfl rfl rfl row52 30 rfl rfl rfl (by first | rfl | kernel_rfl) (fun a w S237 => ?_); clear S236
      refine wpList_n ?_
      refine then_n ?_
      refine wp_seq ?_
      refine wp_region_lit ?_
      refine S237.loadF (want_none rfl) rfl rfl rfl rfl row26 5 rfl (fun a S238 => ?_); clear S237
      refine S238.fieldA (want_none rfl) rfl rfl rfl rfl (fld52_0 _ _ _) (fun a S239 => ?_); clear S238
      refine S239.load1 (want_none rfl) rfl rfl rfl rfl one50 30 rfl rfl (fun a S240 => ?_); clear S239
      refine S240.conv (want_none rfl) rfl rfl rfl rfl (convI Try.underlying50 Try.underlying2 _ (IntWalk.i64_in _ (by omega))) (fun a S241 => ?_); clear S240
      refine S241.fieldA (want_none rfl) rfl rfl rfl rfl (fld52_1 _ _ _) (fun a S242 => ?_); clear S241
      refine S242.load1 (want_none rfl) rfl rfl rfl rfl one50 30 rfl rfl (fun a S243 => ?_); clear S242
      refine S243.conv (want_none rfl) rfl rfl rfl rfl (convI Try.underlying50 Try.underlying2 _ (IntWalk.i64_in _ (by omega))) (fun a S244 => ?_); clear S243
      refine S244.callB (want_none rfl) rfl rfl rfl rfl Try.call43 (BlobAt_ok f px py _ hf hq1 hq2 hbd.2) (fun a w hq2 S245 => ?_); clear S244 hq2
      refine S245.move (want_none rfl) rfl rfl rfl rfl (fun a S246 => ?_); clear S245
      refine S246.extract (want_none rfl) rfl rfl rfl rfl rfl (fun a S247 => ?_); clear S246
      refine S247.extract (want_none rfl) rfl rfl rfl rfl rfl (fun a S248 => ?_); clear S247
      refine S248.allocA (want_none rfl) rfl rfl rfl (Try.zeroValue26 _) cellsZ26 (fun b31 a w hq3 hq4 S249 => ?_); clear S248 hq3 hq4
      refine S249.storeF (want_none rfl) rfl rfl rfl rfl row26 31 rfl (fun a w S250 => ?_); clear S249
      refine S250.asg (want_none rfl) rfl rfl rfl rfl (fun a S251 => ?_); clear S250
      refine wpList_n ?_
      refine then_n ?_
      refine wp_seq ?_
      refine wp_seq ?_
      refine S251.quiet (by kernel_rfl) (by kernel_rfl) (fun a S252 => ?_)
      clear S251
      refine S252.qmove (want_none rfl) rfl rfl rfl rfl (fun a S253 => ?_); clear S252
      refine S253.qbin (want_none rfl) rfl rfl rfl rfl rfl (fun w hC => by first | exact neqF Try.underlying2 _ _ _ _ (by omega) | exact neqT Try.underlying2 _ _ _ _ (by omega) | exact neqI Try.underlying2 _ _ _ _) (fun a S254 => ?_); clear S253
      refine S254.qmove (want_none rfl) rfl rfl rfl rfl (fun a S255 => ?_); clear S254
      refine S255.qload (S255.want rfl rfl rfl rfl rfl) rfl rfl rfl rfl (fun w hC => hC.loadR row26 31 rfl (frC_size _)) (fun a S256 => ?_); clear S255
      refine S256.qmove (S256.want rfl rfl rfl rfl rfl) rfl rfl rfl rfl (fun a S257 => ?_); clear S256
      refine S257.qmove (S257.want rfl rfl rfl rfl rfl) rfl rfl rfl rfl (fun a S258 => ?_); clear S257
      refine S258.qindexA (S258.want rfl rfl rfl rfl rfl) rfl rfl rfl rfl rfl (fun w hC => idxS0 Try.underlying47 size26 _ _ _ _ hlt) (fun a S259 => ?_); clear S258
      refine S259.qload (S259.want rfl rfl rfl rfl rfl) rfl rfl rfl rfl (fun w hC => row26.load ((hC.own? 8 rfl).rowFr hBk)) (fun a S260 => ?_); clear S259
      refine S260.qbin (S260.want rfl rfl rfl rfl rfl) rfl rfl rfl rfl rfl (fun w hC => neqFrF _ _ (hbd.1)) (fun a S261 => ?_); clear S260
      refine S261.qpickF (want_none rfl) rfl rfl rfl rfl rfl (fun a S262 => ?_); clear S261
      refine S262.qend (fun S263 w hB => ?_)
      have S264 : St _ _ _ _ _ _ := ⟨S263, hB⟩
      clear S263
      refine then_n ?_
      refine S264.noB rfl (rfl) ?_
      refine wp_skip ?_
      refine then_n ?_
      refine wp_seq ?_
      refine S264.held (by kernel_rfl) (fun a w => ∃ b33, St w0 433 [(1, .slice A2 n2 c2), (5, .pointer (some ⟨b5, 0, none⟩)), (6, .slice (some ⟨ba, 0, none⟩) (Fr.blobs f f).length c6), (8, .slice (some ⟨bc, 0, none⟩) (Fr.blobs f f).length c8), (20, .pointer (some ⟨b20, 0, none⟩)), (21, .int .i64 (k : Nat)), (33, .pointer (some ⟨b33, 0, none⟩)), (34, .int .i64 0)] [(5, blk b5 (frC f) 26), (6, row w0.heap.size 26 frE 12 (.slice (some ⟨ba, 0, none⟩) (Fr.blobs f f).length c6) (Fr.blobs f f)), (8, row w0.heap.size 26 frE 12 (.slice (some ⟨bc, 0, none⟩) (Fr.blobs f f).length c8) (Fr.blobs f f)), (20, blk b20 (frC (Fr.joinTo (Fr.blobs f f) k)) 26), (33, blk b33 (frC ((Fr.joinTo (Fr.blobs f f) k).join B)) 26)] a w) ?_ (fun a w S265 hB => ?_)
      rotate_left
      · have hK := hB
        refine S265.hload 0 rfl (by kernel_rfl) (by kernel_rfl) (by kernel_rfl) hB (want_none rfl) rfl rfl rfl rfl (fun w hC => hC.loadR row26 20 rfl (frC_size _)) (fun a S266 => ?_); clear S265
        refine S266.hmove 1 rfl (by kernel_rfl) (by kernel_rfl) (by kernel_rfl) hB (want_none rfl) rfl rfl rfl rfl (fun a S267 => ?_); clear S266
        refine S267.hmove 2 rfl (by kernel_rfl) (by kernel_rfl) (by kernel_rfl) hB (want_none rfl) rfl rfl rfl rfl (fun a S268 => ?_); clear S267
        refine S268.hindexA 3 rfl (by kernel_rfl) (by kernel_rfl) (by kernel_rfl) hB (want_none rfl) rfl rfl rfl rfl rfl (fun w hC => idxS0 Try.underlying47 size26 _ _ _ _ hlt) (fun a S269 => ?_); clear S268
        refine S269.hload 4 rfl (by kernel_rfl) (by kernel_rfl) (by kernel_rfl) hB (want_none rfl) rfl rfl rfl rfl (fun w hC => row26.load ((hC.own? 8 rfl).rowFr hBk)) (fun a S270 => ?_); clear S269
        refine Sl.hany [5, 9] (by kernel_rfl) (by simp) ⟨⟨_, rfl, ?_⟩, ⟨_, rfl, ?_⟩, trivial⟩
        · skip
          have S271 : St _ _ _ _ _ _ := ⟨S270, hK⟩
          clear S270
          refine S271.callB (want_none rfl) rfl rfl rfl rfl Try.call44 (sJoinFrames_ok _ B _ hJok hBok) (fun a w hq2 S272 => ?_); clear S271 hq2
          refine wpList_n ?_
          have hB := S272.bag.base [] trivial
          have hK := S272.bag
          have S273 := S272.sl
          clear S272
          refine nrm_mk ⟨hB, ?_⟩
          refine S273.hmove 6 rfl (by kernel_rfl) (by kernel_rfl) (by kernel_rfl) hB (want_none rfl) rfl rfl rfl rfl (fun a S274 => ?_); clear S273
          refine S274.hextract 7 rfl (by kernel_rfl) (by kernel_rfl) (by kernel_rfl) hB (want_none rfl) rfl rfl rfl rfl rfl (fun a S275 => ?_); clear S274
          refine S275.hextract 8 rfl (by kernel_rfl) (by kernel_rfl) (by kernel_rfl) hB (want_none rfl) rfl rfl rfl rfl rfl (fun a S276 => ?_); clear S275
          refine Sl.hany [9] (by kernel_rfl) (by simp) ⟨⟨_, rfl, ?_⟩, trivial⟩
          have S277 : St _ _ _ _ _ _ := ⟨S276, hK⟩
          clear S276
          refine S277.allocA (want_none rfl) rfl rfl rfl (Try.zeroValue26 _) cellsZ26 (fun b33 a w hq3 hq4 S278 => ?_); clear S277 hq3 hq4
          refine wpList_n ?_
          have hB := S278.bag.base [(33, _)] ⟨rfl, trivial⟩
          have hK := S278.bag
          have S279 := S278.sl
          clear S278
          refine nrm_mk ⟨hB, ?_⟩
          refine Sl.hany [10] (by kernel_rfl) (by simp) ⟨⟨_, rfl, ?_⟩, trivial⟩
          have S280 : St _ _ _ _ _ _ := ⟨S279, hK⟩
          clear S279
          refine S280.storeF (want_none rfl) rfl rfl rfl rfl row26 33 rfl (fun a w S281 => ?_); clear S280
          refine wpList_n ?_
          have hB := S281.bag.base [(33, _), (33, _)] ⟨rfl, rfl, trivial⟩
          have hK := S281.bag
          have S282 := S281.sl
          clear S281
          refine nrm_mk ⟨hB, ?_⟩
          refine S282.hasg 11 rfl (by kernel_rfl) (by kernel_rfl) (by kernel_rfl) hB (want_none rfl) rfl rfl rfl rfl (fun a S283 => ?_); clear S282
          have S284 : St _ _ _ _ _ _ := ⟨S283, hK⟩
          exact hend (by kernel_rfl) (⟨_, S284.to ⟨rfl, rfl, rfl, rfl, rfl, rfl, rfl, rfl, trivial⟩ ⟨rfl, rfl, rfl, rfl, rfl, trivial⟩⟩)
        · skip
          have S271 : St _ _ _ _ _ _ := ⟨S270, hK⟩
          clear S270
          refine S271.allocA (want_none rfl) rfl rfl rfl (Try.zeroValue26 _) cellsZ26 (fun b33 a w hq3 hq4 S272 => ?_); clear S271 hq3 hq4
          refine wpList_n ?_
          have hB := S272.bag.base [(33, _)] ⟨rfl, trivial⟩
          have hK := S272.bag
          have S273 := S272.sl
          clear S272
          refine nrm_mk ⟨hB, ?_⟩
          refine Sl.hany [5] (by kernel_rfl) (by simp) ⟨⟨_, rfl, ?_⟩, trivial⟩
          have S274 : St _ _ _ _ _ _ := ⟨S273, hK⟩
          clear S273
          refine S274.callB (want_none rfl) rfl rfl rfl rfl Try.call44 (sJoinFrames_ok _ B _ hJok hBok) (fun a w hq2 S275 => ?_); clear S274 hq2
          refine wpList_n ?_
          have hB := S275.bag.base [(33, _)] ⟨rfl, trivial⟩
          have hK := S275.bag
          have S276 := S275.sl
          clear S275
          refine nrm_mk ⟨hB, ?_⟩
          refine S276.hmove 6 rfl (by kernel_rfl) (by kernel_rfl) (by kernel_rfl) hB (want_none rfl) rfl rfl rfl rfl (fun a S277 => ?_); clear S276
          refine S277.hextract 7 rfl (by kernel_rfl) (by kernel_rfl) (by kernel_rfl) hB (want_none rfl) rfl rfl rfl rfl rfl (fun a S278 => ?_); clear S277
          refine S278.hextract 8 rfl (by kernel_rfl) (by kernel_rfl) (by kernel_rfl) hB (want_none rfl) rfl rfl rfl rfl rfl (fun a S279 => ?_); clear S278
          refine Sl.hany [10] (by kernel_rfl) (by simp) ⟨⟨_, rfl, ?_⟩, trivial⟩
          have S280 : St _ _ _ _ _ _ := ⟨S279, hK⟩
          clear S279
          refine S280.storeF (want_none rfl) rfl rfl rfl rfl row26 33 rfl (fun a w S281 => ?_); clear S280
          refine wpList_n ?_
          have hB := S281.bag.base [(33, _), (33, _)] ⟨rfl, rfl, trivial⟩
          have hK := S281.bag
          have S282 := S281.sl
          clear S281
          refine nrm_mk ⟨hB, ?_⟩
          refine S282.hasg 11 rfl (by kernel_rfl) (by kernel_rfl) (by kernel_rfl) hB (want_none rfl) rfl rfl rfl rfl (fun a S283 => ?_); clear S282
          have S284 : St _ _ _ _ _ _ := ⟨S283, hK⟩
          exact hend (by kernel_rfl) (⟨_, S284.to ⟨rfl, rfl, rfl, rfl, rfl, rfl, rfl, rfl, trivial⟩ ⟨rfl, rfl, rfl, rfl, rfl, trivial⟩⟩)
      intro a w hP
      obtain ⟨b33, S285⟩ := hP
      refine then_n ?_
      refine wp_seq ?_
      refine wp_seq ?_
      refine wp_region_lit ?_
      refine S285.move (want_none rfl) rfl rfl rfl rfl (fun a S286 => ?_); clear S285
      refine S286.bin (want_none rfl) rfl rfl rfl rfl rfl (by first | exact neqF Try.underlying2 _ _ _ _ (by omega) | exact neqT Try.underlying2 _ _ _ _ (by omega) | exact neqI Try.underlying2 _ _ _ _) (fun a S287 => ?_); clear S286
      refine wpList_n ?_
      refine then_n ?_
      refine S287.noB rfl (rfl) ?_
      refine wp_skip ?_
      refine then_n ?_
      refine wp_region_lit ?_
      refine S287.loadF (want_none rfl) rfl rfl rfl rfl row26 33 rfl (fun a S288 => ?_); clear S287
      refine S288.storeF (want_none rfl) rfl rfl rfl rfl row26 20 rfl (fun a w S289 => ?_); clear S288
      refine wpList_n ?_
      refine blk_n ?_
      refine then_n ?_
      refine wp_region_lit ?_
      refine S289.move (want_none rfl) rfl rfl rfl rfl (fun a S290 => ?_); clear S289
      refine S290.bin (want_none rfl) rfl rfl rfl rfl rfl (addI Try.underlying3 _ _ _ _ (IntWalk.i64_in _ (by omega))) (fun a S291 => ?_); clear S290
      refine S291.asg (want_none rfl) rfl rfl rfl rfl (fun a S292 => ?_); clear S291
      refine wpList_n ?_
      refine then_n ?_
      exact ⟨(Fr.blobs f f).length - (k + 1), by omega, k + 1, by omega, rfl, S292.to ⟨rfl, rfl, rfl, rfl, rfl, rfl, trivial⟩ ⟨rfl, rfl, rfl, by rw [← Fr.joinTo_succ _ k B hBk]; rfl, trivial⟩⟩
    · skip
      refine wp_exit ?_
      refine then_e ?_
      refine then_e ?_
      refine blk_e ?_
      refine then_n ?_
      refine wp_seq ?_
      obtain rfl : k = (Fr.blobs f f).length := by have := of_decide_eq_false hlt; omega
      rw [Fr.joinTo_all hf] at S123
      by_cases hz : f.dots = []
      · skip
        have hl0 : (Fr.blobs f f).length = 0 := by rw [(dots_nil_iff hf).1 hz]; rfl
        refine wp_region_lit ?_
        refine S123.loadF (want_none rfl) rfl rfl rfl rfl row26 5 rfl (fun a S124 => ?_); clear S123
        refine S124.callB (want_none rfl) rfl rfl rfl rfl Try.call45 (BoxOf_none f _ hf hz) (fun a w hq2 S125 => ?_); clear S124 hq2
        refine S125.move (want_none rfl) rfl rfl rfl rfl (fun a S126 => ?_); clear S125
        refine S126.extract (want_none rfl) rfl rfl rfl rfl rfl (fun a S127 => ?_); clear S126
        refine S127.extract (want_none rfl) rfl rfl rfl rfl rfl (fun a S128 => ?_); clear S127
        refine S128.allocA (want_none rfl) rfl rfl rfl (Try.zeroValue54 _) rfl (fun b35 a w hq3 hq4 S129 => ?_); clear S128 hq3 hq4
        refine S129.storeR (want_none rfl) rfl rfl rfl rfl row54 35 rfl rfl rfl (by first | rfl | kernel_rfl) (fun a w S130 => ?_); clear S129
        refine S130.asg (want_none rfl) rfl rfl rfl rfl (fun a S131 => ?_); clear S130
        refine wpList_n ?_
        refine then_n ?_
        refine wp_seq ?_
        refine wp_region_lit ?_
        refine S131.loadF (want_none rfl) rfl rfl rfl rfl row26 5 rfl (fun a S132 => ?_); clear S131
        refine S132.callB (want_none rfl) rfl rfl rfl rfl Try.call46 (sBoxOf_none f _ hf hz) (fun a w hq2 S133 => ?_); clear S132 hq2
        refine S133.move (want_none rfl) rfl rfl rfl rfl (fun a S134 => ?_); clear S133
        refine S134.extract (want_none rfl) rfl rfl rfl rfl rfl (fun a S135 => ?_); clear S134
        refine S135.extract (want_none rfl) rfl rfl rfl rfl rfl (fun a S136 => ?_); clear S135
        refine S136.allocA (want_none rfl) rfl rfl rfl (Try.zeroValue54 _) rfl (fun b37 a w hq3 hq4 S137 => ?_); clear S136 hq3 hq4
        refine S137.storeR (want_none rfl) rfl rfl rfl rfl row54 37 rfl rfl rfl (by first | rfl | kernel_rfl) (fun a w S138 => ?_); clear S137
        refine S138.asg (want_none rfl) rfl rfl rfl rfl (fun a S139 => ?_); clear S138
        refine wpList_n ?_
        refine then_n ?_
        refine wp_seq ?_
        refine wp_seq ?_
        refine wp_region_lit ?_
        refine S139.loadF (want_none rfl) rfl rfl rfl rfl row26 20 rfl (fun a S140 => ?_); clear S139
        refine S140.loadF (want_none rfl) rfl rfl rfl rfl row26 5 rfl (fun a S141 => ?_); clear S140
        refine S141.bin (want_none rfl) rfl rfl rfl rfl rfl (neqFrF _ _ (rfl)) (fun a S142 => ?_); clear S141
        refine S142.move (want_none rfl) rfl rfl rfl rfl (fun a S143 => ?_); clear S142
        refine S143.move (S143.sl.want rfl rfl rfl rfl rfl) rfl rfl rfl rfl (fun a S144 => ?_); clear S143
        refine S144.move (S144.sl.want rfl rfl rfl rfl rfl) rfl rfl rfl rfl (fun a S145 => ?_); clear S144
        refine S145.bin (S145.sl.want rfl rfl rfl rfl rfl) rfl rfl rfl rfl rfl (neqF Try.underlying2 _ _ _ _ (rfl)) (fun a S146 => ?_); clear S145
        refine S146.pickF (want_none rfl) rfl rfl rfl rfl rfl (fun a S147 => ?_); clear S146
        refine S147.move (want_none rfl) rfl rfl rfl rfl (fun a S148 => ?_); clear S147
        refine S148.loadR (S148.sl.want rfl rfl rfl rfl rfl) rfl rfl rfl rfl row54 35 rfl rfl (fun a S149 => ?_); clear S148
        refine S149.loadR (S149.sl.want rfl rfl rfl rfl rfl) rfl rfl rfl rfl row54 37 rfl rfl (fun a S150 => ?_); clear S149
        refine S150.bin (S150.sl.want rfl rfl rfl rfl rfl) rfl rfl rfl rfl rfl (neqBox _ _ _ _ _ _) (fun a S151 => ?_); clear S150
        refine S151.pickF (want_none rfl) rfl rfl rfl rfl rfl (fun a S152 => ?_); clear S151
        refine S152.move (want_none rfl) rfl rfl rfl rfl (fun a S153 => ?_); clear S152
        refine S153.move (S153.sl.want rfl rfl rfl rfl rfl) rfl rfl rfl rfl (fun a S154 => ?_); clear S153
        refine S154.bin (S154.sl.want rfl rfl rfl rfl rfl) rfl rfl rfl rfl rfl (by first | exact eqlF Try.underlying2 _ _ _ _ (by omega) | exact eqlT Try.underlying2 _ _ _ _ (by omega) | exact eqlI Try.underlying2 _ _ _ _) (fun a S155 => ?_); clear S154
        refine S155.move (S155.sl.want rfl rfl rfl rfl rfl) rfl rfl rfl rfl (fun a S156 => ?_); clear S155
        refine S156.builtin (S156.sl.want rfl rfl rfl rfl rfl) rfl rfl rfl rfl (lenS Try.underlying47 _ _ _ _ _) (fun a S157 => ?_); clear S156
        refine S157.bin (S157.sl.want rfl rfl rfl rfl rfl) rfl rfl rfl rfl rfl (by first | exact gtrF Try.underlying3 _ _ _ _ (by omega) | exact gtrT Try.underlying3 _ _ _ _ (by omega) | exact gtrI Try.underlying3 _ _ _ _) (fun a S158 => ?_); clear S157
        refine S158.bin (S158.sl.want rfl rfl rfl rfl rfl) rfl rfl rfl rfl rfl (neqB Try.underlying4 _ _ _ _) (fun a S159 => ?_); clear S158
        refine S159.pickF (want_none rfl) rfl rfl rfl rfl rfl (fun a S160 => ?_); clear S159
        refine wpList_n ?_
        refine then_n ?_
        refine S160.noB rfl (rfl) ?_
        refine wp_skip ?_
        refine then_n ?_
        refine wp_seq ?_
        refine wp_region_lit ?_
        refine S160.move (want_none rfl) rfl rfl rfl rfl (fun a S161 => ?_); clear S160
        refine S161.call (want_none rfl) rfl rfl rfl rfl Try.call21 (at_any _ 0 12 (by omega) (by omega) _ (H2.out.below S161.bag.below)) (fun e w hR => ?_)
        obtain ⟨x, rfl, hx1, hx2, rfl⟩ := hR
        refine ⟨_, rfl, fun a A => ?_⟩
        have S162 : St _ _ _ _ _ _ := ⟨A, S161.bag⟩; clear A S161
        refine S162.asg (want_none rfl) rfl rfl rfl rfl (fun a S163 => ?_); clear S162
        refine wpList_n ?_
        refine then_n ?_
        refine wp_seq ?_
        refine wp_region_lit ?_
        refine S163.move (want_none rfl) rfl rfl rfl rfl (fun a S164 => ?_); clear S163
        refine S164.call (want_none rfl) rfl rfl rfl rfl Try.call21 (at_any _ 1 12 (by omega) (by omega) _ (H2.out.below S164.bag.below)) (fun e w hR => ?_)
        obtain ⟨y, rfl, hy1, hy2, rfl⟩ := hR
        refine ⟨_, rfl, fun a A => ?_⟩
        have S165 : St _ _ _ _ _ _ := ⟨A, S164.bag⟩; clear A S164
        obtain ⟨x, rfl⟩ := Int.eq_ofNat_of_zero_le hx1
        obtain ⟨y, rfl⟩ := Int.eq_ofNat_of_zero_le hy1
        have hx : x < 12 := by omega
        have hy : y < 12 := by omega
        have hS1 := ok_setDot hf hx hy true
        have hS2 := ok_setDot hS1 hx hy false
        have hj : ((Fr.jump f (setDot f x y true) : Nat) : Int) = _ := Fr.jump_set hx hy
        rw [← row_bit_eq] at hj
        have hbit : 0 ≤ rowI ((f.row y) >>> x &&& 1#16) ∧ rowI ((f.row y) >>> x &&& 1#16) ≤ 1 := by rw [row_bit_eq]; split <;> omega
        refine S165.asg (want_none rfl) rfl rfl rfl rfl (fun a S166 => ?_); clear S165
        refine wpList_n ?_
        refine then_n ?_
        refine wp_seq ?_
        refine wp_region_lit ?_
        refine S166.loadF (want_none rfl) rfl rfl rfl rfl row26 5 rfl (fun a S167 => ?_); clear S166
        refine S167.move (want_none rfl) rfl rfl rfl rfl (fun a S168 => ?_); clear S167
        refine S168.move (want_none rfl) rfl rfl rfl rfl (fun a S169 => ?_); clear S168
        refine S169.callB (want_none rfl) rfl rfl rfl rfl Try.call47 (WithDot_ok f x y true _ hf hx hy) (fun a w hq2 S170 => ?_); clear S169 hq2
        refine S170.move (want_none rfl) rfl rfl rfl rfl (fun a S171 => ?_); clear S170
        refine S171.extract (want_none rfl) rfl rfl rfl rfl rfl (fun a S172 => ?_); clear S171
        refine S172.extract (want_none rfl) rfl rfl rfl rfl rfl (fun a S173 => ?_); clear S172
        refine S173.allocA (want_none rfl) rfl rfl rfl (Try.zeroValue26 _) cellsZ26 (fun b41 a w hq3 hq4 S174 => ?_); clear S173 hq3 hq4
        refine S174.storeF (want_none rfl) rfl rfl rfl rfl row26 41 rfl (fun a w S175 => ?_); clear S174
        refine S175.asg (want_none rfl) rfl rfl rfl rfl (fun a S176 => ?_); clear S175
        refine wpList_n ?_
        refine then_n ?_
        refine wp_seq ?_
        refine wp_region_lit ?_
        refine S176.loadF (want_none rfl) rfl rfl rfl rfl row26 41 rfl (fun a S177 => ?_); clear S176
        refine S177.move (want_none rfl) rfl rfl rfl rfl (fun a S178 => ?_); clear S177
        refine S178.move (want_none rfl) rfl rfl rfl rfl (fun a S179 => ?_); clear S178
        refine S179.callB (want_none rfl) rfl rfl rfl rfl Try.call47 (WithDot_ok _ x y false _ hS1 hx hy) (fun a w hq2 S180 => ?_); clear S179 hq2
        refine S180.move (want_none rfl) rfl rfl rfl rfl (fun a S181 => ?_); clear S180
        refine S181.extract (want_none rfl) rfl rfl rfl rfl rfl (fun a S182 => ?_); clear S181
        refine S182.extract (want_none rfl) rfl rfl rfl rfl rfl (fun a S183 => ?_); clear S182
        refine S183.allocA (want_none rfl) rfl rfl rfl (Try.zeroValue26 _) cellsZ26 (fun b43 a w hq3 hq4 S184 => ?_); clear S183 hq3 hq4
        refine S184.storeF (want_none rfl) rfl rfl rfl rfl row26 43 rfl (fun a w S185 => ?_); clear S184
        refine S185.asg (want_none rfl) rfl rfl rfl rfl (fun a S186 => ?_); clear S185
        refine wpList_n ?_
        refine then_n ?_
        refine wp_seq ?_
        refine wp_region_lit ?_
        refine S186.loadF (want_none rfl) rfl rfl rfl rfl row26 41 rfl (fun a S187 => ?_); clear S186
        refine S187.move (want_none rfl) rfl rfl rfl rfl (fun a S188 => ?_); clear S187
        refine S188.move (want_none rfl) rfl rfl rfl rfl (fun a S189 => ?_); clear S188
        refine S189.callB (want_none rfl) rfl rfl rfl rfl Try.call31 (by have := hasDot_ok (setDot f x y true) x y; rw [show (setDot f x y true).has (x : Int) (y : Int) = true from Fr.has_set hx hy] at this; exact this _ hS1 (isP_in hx hy)) (fun a w hq2 S190 => ?_); clear S189 hq2
        refine S190.move (want_none rfl) rfl rfl rfl rfl (fun a S191 => ?_); clear S190
        refine S191.extract (want_none rfl) rfl rfl rfl rfl rfl (fun a S192 => ?_); clear S191
        refine S192.extract (want_none rfl) rfl rfl rfl rfl rfl (fun a S193 => ?_); clear S192
        refine S193.asg (want_none rfl) rfl rfl rfl rfl (fun a S194 => ?_); clear S193
        refine S194.asg (want_none rfl) rfl rfl rfl rfl (fun a S195 => ?_); clear S194
        refine wpList_n ?_
        refine then_n ?_
        refine wp_seq ?_
        refine wp_region_lit ?_
        refine S195.loadF (want_none rfl) rfl rfl rfl rfl row26 43 rfl (fun a S196 => ?_); clear S195
        refine S196.move (want_none rfl) rfl rfl rfl rfl (fun a S197 => ?_); clear S196
        refine S197.move (want_none rfl) rfl rfl rfl rfl (fun a S198 => ?_); clear S197
        refine S198.callB (want_none rfl) rfl rfl rfl rfl Try.call31 (by have := hasDot_ok (setDot (setDot f x y true) x y false) x y; rw [show (setDot (setDot f x y true) x y false).has (x : Int) (y : Int) = false from Fr.has_struck hx hy] at this; exact this _ hS2 (isP_in hx hy)) (fun a w hq2 S199 => ?_); clear S198 hq2
        refine S199.move (want_none rfl) rfl rfl rfl rfl (fun a S200 => ?_); clear S199
        refine S200.extract (want_none rfl) rfl rfl rfl rfl rfl (fun a S201 => ?_); clear S200
        refine S201.extract (want_none rfl) rfl rfl rfl rfl rfl (fun a S202 => ?_); clear S201
        refine S202.asg (want_none rfl) rfl rfl rfl rfl (fun a S203 => ?_); clear S202
        refine S203.asg (want_none rfl) rfl rfl rfl rfl (fun a S204 => ?_); clear S203
        refine wpList_n ?_
        refine then_n ?_
        refine wp_seq ?_
        refine wp_region_lit ?_
        refine S204.loadF (want_none rfl) rfl rfl rfl rfl row26 43 rfl (fun a S205 => ?_); clear S204
        refine S205.move (want_none rfl) rfl rfl rfl rfl (fun a S206 => ?_); clear S205
        refine S206.move (want_none rfl) rfl rfl rfl rfl (fun a S207 => ?_); clear S206
        refine S207.callB (want_none rfl) rfl rfl rfl rfl Try.call43 (BlobAt_none _ x y _ hS2 hx hy (Fr.dot_struck hx hy)) (fun a w hq2 S208 => ?_); clear S207 hq2
        refine S208.move (want_none rfl) rfl rfl rfl rfl (fun a S209 => ?_); clear S208
        refine S209.extract (want_none rfl) rfl rfl rfl rfl rfl (fun a S210 => ?_); clear S209
        refine S210.extract (want_none rfl) rfl rfl rfl rfl rfl (fun a S211 => ?_); clear S210
        refine S211.allocA (want_none rfl) rfl rfl rfl (Try.zeroValue26 _) cellsZ26 (fun b49 a w hq3 hq4 S212 => ?_); clear S211 hq3 hq4
        refine S212.storeF (want_none rfl) rfl rfl rfl rfl row26 49 rfl (fun a w S213 => ?_); clear S212
        refine S213.asg (want_none rfl) rfl rfl rfl rfl (fun a S214 => ?_); clear S213
        refine wpList_n ?_
        refine then_n ?_
        refine wp_seq ?_
        refine wp_region_lit ?_
        refine S214.loadF (want_none rfl) rfl rfl rfl rfl row26 5 rfl (fun a S215 => ?_); clear S214
        refine S215.loadF (want_none rfl) rfl rfl rfl rfl row26 41 rfl (fun a S216 => ?_); clear S215
        refine S216.callB (want_none rfl) rfl rfl rfl rfl Try.call30 (differBy_ok f _ _ hf hS1) (fun a w hq2 S217 => ?_); clear S216 hq2
        refine S217.move (want_none rfl) rfl rfl rfl rfl (fun a S218 => ?_); clear S217
        refine S218.extract (want_none rfl) rfl rfl rfl rfl rfl (fun a S219 => ?_); clear S218
        refine S219.extract (want_none rfl) rfl rfl rfl rfl rfl (fun a S220 => ?_); clear S219
        refine S220.asg (want_none rfl) rfl rfl rfl rfl (fun a S221 => ?_); clear S220
        refine S221.asg (want_none rfl) rfl rfl rfl rfl (fun a S222 => ?_); clear S221
        refine wpList_n ?_
        refine then_n ?_
        refine wp_seq ?_
        refine wp_seq ?_
        refine wp_region_lit ?_
        refine S222.move (want_none rfl) rfl rfl rfl rfl (fun a S223 => ?_); clear S222
        refine S223.bin (want_none rfl) rfl rfl rfl rfl rfl (by first | exact neqF Try.underlying2 _ _ _ _ (by omega) | exact neqT Try.underlying2 _ _ _ _ (by omega) | exact neqI Try.underlying2 _ _ _ _) (fun a S224 => ?_); clear S223
        refine S224.move (want_none rfl) rfl rfl rfl rfl (fun a S225 => ?_); clear S224
        refine S225.move (S225.sl.want rfl rfl rfl rfl rfl) rfl rfl rfl rfl (fun a S226 => ?_); clear S225
        refine S226.move (S226.sl.want rfl rfl rfl rfl rfl) rfl rfl rfl rfl (fun a S227 => ?_); clear S226
        refine S227.indexA (S227.sl.want rfl rfl rfl rfl rfl) rfl rfl rfl rfl rfl (idxFr _ _ hy) (fun a S228 => ?_); clear S227
        refine S228.load1 (S228.sl.want rfl rfl rfl rfl rfl) rfl rfl rfl rfl one24 5 rfl (frC_at _ hy) (fun a S229 => ?_); clear S228
        refine S229.move (S229.sl.want rfl rfl rfl rfl rfl) rfl rfl rfl rfl (fun a S230 => ?_); clear S229
        refine S230.conv (S230.sl.want rfl rfl rfl rfl rfl) rfl rfl rfl rfl (convI Try.underlying2 Try.underlying41 _ (IntWalk.u64_in _ (by omega))) (fun a S231 => ?_); clear S230
        refine S231.bin (S231.sl.want rfl rfl rfl rfl rfl) rfl rfl rfl rfl rfl (shrR _ _ _ _ _) (fun a S232 => ?_); clear S231
        refine S232.bin (S232.sl.want rfl rfl rfl rfl rfl) rfl rfl rfl rfl rfl (and1R _ _ _) (fun a S233 => ?_); clear S232
        refine S233.conv (S233.sl.want rfl rfl rfl rfl rfl) rfl rfl rfl rfl (convI Try.underlying24 Try.underlying2 _ (IntWalk.i64_in _ (by omega))) (fun a S234 => ?_); clear S233
        refine S234.bin (S234.sl.want rfl rfl rfl rfl rfl) rfl rfl rfl rfl rfl (subI Try.underlying2 _ _ _ _ (IntWalk.i64_in _ (by omega))) (fun a S235 => ?_); clear S234
        refine S235.bin (S235.sl.want rfl rfl rfl rfl rfl) rfl rfl rfl rfl rfl (by first | exact neqF Try.underlying2 _ _ _ _ (by omega) | exact neqT Try.underlying2 _ _ _ _ (by omega) | exact neqI Try.underlying2 _ _ _ _) (fun a S236 => ?_); clear S235
        refine S236.pickF (want_none rfl) rfl rfl rfl rfl rfl (fun a S237 => ?_); clear S236
        refine wpList_n ?_
        refine then_n ?_
        refine S237.noB rfl (rfl) ?_
        refine wp_skip ?_
        refine then_n ?_
        refine wp_seq ?_
        refine wp_seq ?_
        refine wp_region_lit ?_
        refine S237.move (want_none rfl) rfl rfl rfl rfl (fun a S238 => ?_); clear S237
        refine S238.bin (want_none rfl) rfl rfl rfl rfl rfl (by first | exact neqF Try.underlying2 _ _ _ _ (by omega) | exact neqT Try.underlying2 _ _ _ _ (by omega) | exact neqI Try.underlying2 _ _ _ _) (fun a S239 => ?_); clear S238
        refine S239.move (want_none rfl) rfl rfl rfl rfl (fun a S240 => ?_); clear S239
        refine S240.move (S240.sl.want rfl rfl rfl rfl rfl) rfl rfl rfl rfl (fun a S241 => ?_); clear S240
        refine S241.bin (S241.sl.want rfl rfl rfl rfl rfl) rfl rfl rfl rfl rfl (by first | exact neqF Try.underlying2 _ _ _ _ (by omega) | exact neqT Try.underlying2 _ _ _ _ (by omega) | exact neqI Try.underlying2 _ _ _ _) (fun a S242 => ?_); clear S241
        refine S242.pickF (want_none rfl) rfl rfl rfl rfl rfl (fun a S243 => ?_); clear S242
        refine S243.move (want_none rfl) rfl rfl rfl rfl (fun a S244 => ?_); clear S243
        refine S244.move (S244.sl.want rfl rfl rfl rfl rfl) rfl rfl rfl rfl (fun a S245 => ?_); clear S244
        refine S245.bin (S245.sl.want rfl rfl rfl rfl rfl) rfl rfl rfl rfl rfl (by first | exact neqF Try.underlying2 _ _ _ _ (by omega) | exact neqT Try.underlying2 _ _ _ _ (by omega) | exact neqI Try.underlying2 _ _ _ _) (fun a S246 => ?_); clear S245
        refine S246.pickF (want_none rfl) rfl rfl rfl rfl rfl (fun a S247 => ?_); clear S246
        refine S247.move (want_none rfl) rfl rfl rfl rfl (fun a S248 => ?_); clear S247
        refine S248.move (S248.sl.want rfl rfl rfl rfl rfl) rfl rfl rfl rfl (fun a S249 => ?_); clear S248
        refine S249.un (S249.sl.want rfl rfl rfl rfl rfl) rfl rfl rfl rfl (notB _) (fun a S250 => ?_); clear S249
        refine S250.pickF (want_none rfl) rfl rfl rfl rfl rfl (fun a S251 => ?_); clear S250
        refine S251.move (want_none rfl) rfl rfl rfl rfl (fun a S252 => ?_); clear S251
        refine S252.move (S252.sl.want rfl rfl rfl rfl rfl) rfl rfl rfl rfl (fun a S253 => ?_); clear S252
        refine S253.bin (S253.sl.want rfl rfl rfl rfl rfl) rfl rfl rfl rfl rfl (by first | exact neqF Try.underlying2 _ _ _ _ (by omega) | exact neqT Try.underlying2 _ _ _ _ (by omega) | exact neqI Try.underlying2 _ _ _ _) (fun a S254 => ?_); clear S253
        refine S254.pickF (want_none rfl) rfl rfl rfl rfl rfl (fun a S255 => ?_); clear S254
        refine S255.move (want_none rfl) rfl rfl rfl rfl (fun a S256 => ?_); clear S255
        refine S256.move (S256.sl.want rfl rfl rfl rfl rfl) rfl rfl rfl rfl (fun a S257 => ?_); clear S256
        refine S257.pickF (want_none rfl) rfl rfl rfl rfl rfl (fun a S258 => ?_); clear S257
        refine S258.move (want_none rfl) rfl rfl rfl rfl (fun a S259 => ?_); clear S258
        refine S259.move (S259.sl.want rfl rfl rfl rfl rfl) rfl rfl rfl rfl (fun a S260 => ?_); clear S259
        refine S260.bin (S260.sl.want rfl rfl rfl rfl rfl) rfl rfl rfl rfl rfl (by first | exact neqF Try.underlying2 _ _ _ _ (by omega) | exact neqT Try.underlying2 _ _ _ _ (by omega) | exact neqI Try.underlying2 _ _ _ _) (fun a S261 => ?_); clear S260
        refine S261.pickF (want_none rfl) rfl rfl rfl rfl rfl (fun a S262 => ?_); clear S261
        refine wpList_n ?_
        refine then_n ?_
        refine S262.noB rfl (rfl) ?_
        refine wp_skip ?_
        refine then_n ?_
        refine wp_seq ?_
        refine wp_seq ?_
        refine wp_region_lit ?_
        refine S262.move (want_none rfl) rfl rfl rfl rfl (fun a S263 => ?_); clear S262
        refine S263.bin (want_none rfl) rfl rfl rfl rfl rfl (by first | exact neqF Try.underlying2 _ _ _ _ (by omega) | exact neqT Try.underlying2 _ _ _ _ (by omega) | exact neqI Try.underlying2 _ _ _ _) (fun a S264 => ?_); clear S263
        refine wpList_n ?_
        refine then_n ?_
        refine S264.yesB rfl (rfl) ?_
        refine wp_seq ?_
        refine wp_region_lit ?_
        refine S264.move (want_none rfl) rfl rfl rfl rfl (fun a S265 => ?_); clear S264
        refine S265.bin (want_none rfl) rfl rfl rfl rfl rfl (by first | exact eqlF Try.underlying2 _ _ _ _ (by omega) | exact eqlT Try.underlying2 _ _ _ _ (by omega) | exact eqlI Try.underlying2 _ _ _ _) (fun a S266 => ?_); clear S265
        refine S266.asg (want_none rfl) rfl rfl rfl rfl (fun a S267 => ?_); clear S266
        refine wpList_n ?_
        refine then_n ?_
        refine wp_ret ?_
        refine then_r ?_
        exact S267.ret1 rfl rfl ⟨rfl, S267.bag.below⟩
      · skip
        have hl0 : 0 < (Fr.blobs f f).length := List.length_pos_iff.2 fun e => hz ((dots_nil_iff hf).2 e)
        have hbx := Fr.box_bd hz
        refine wp_region_lit ?_
        refine S123.loadF (want_none rfl) rfl rfl rfl rfl row26 5 rfl (fun a S124 => ?_); clear S123
        refine S124.callB (want_none rfl) rfl rfl rfl rfl Try.call45 (BoxOf_some f _ hf hz) (fun a w hq2 S125 => ?_); clear S124 hq2
        refine S125.move (want_none rfl) rfl rfl rfl rfl (fun a S126 => ?_); clear S125
        refine S126.extract (want_none rfl) rfl rfl rfl rfl rfl (fun a S127 => ?_); clear S126
        refine S127.extract (want_none rfl) rfl rfl rfl rfl rfl (fun a S128 => ?_); clear S127
        refine S128.allocA (want_none rfl) rfl rfl rfl (Try.zeroValue54 _) rfl (fun b35 a w hq3 hq4 S129 => ?_); clear S128 hq3 hq4
        refine S129.storeR (want_none rfl) rfl rfl rfl rfl row54 35 rfl rfl rfl (by first | rfl | kernel_rfl) (fun a w S130 => ?_); clear S129
        refine S130.asg (want_none rfl) rfl rfl rfl rfl (fun a S131 => ?_); clear S130
        refine wpList_n ?_
        refine then_n ?_
        refine wp_seq ?_
        refine wp_region_lit ?_
        refine S131.loadF (want_none rfl) rfl rfl rfl rfl row26 5 rfl (fun a S132 => ?_); clear S131
        refine S132.callB (want_none rfl) rfl rfl rfl rfl Try.call46 (sBoxOf_some f _ hf hz) (fun a w hq2 S133 => ?_); clear S132 hq2
        refine S133.move (want_none rfl) rfl rfl rfl rfl (fun a S134 => ?_); clear S133
        refine S134.extract (want_none rfl) rfl rfl rfl rfl rfl (fun a S135 => ?_); clear S134
        refine S135.extract (want_none rfl) rfl rfl rfl rfl rfl (fun a S136 => ?_); clear S135
        refine S136.allocA (want_none rfl) rfl rfl rfl (Try.zeroValue54 _) rfl (fun b37 a w hq3 hq4 S137 => ?_); clear S136 hq3 hq4
        refine S137.storeR (want_none rfl) rfl rfl rfl rfl row54 37 rfl rfl rfl (by first | rfl | kernel_rfl) (fun a w S138 => ?_); clear S137
        refine S138.asg (want_none rfl) rfl rfl rfl rfl (fun a S139 => ?_); clear S138
        refine wpList_n ?_
        refine then_n ?_
        refine wp_seq ?_
        refine wp_seq ?_
        refine wp_region_lit ?_
        refine S139.loadF (want_none rfl) rfl rfl rfl rfl row26 20 rfl (fun a S140 => ?_); clear S139
        refine S140.loadF (want_none rfl) rfl rfl rfl rfl row26 5 rfl (fun a S141 => ?_); clear S140
        refine S141.bin (want_none rfl) rfl rfl rfl rfl rfl (neqFrF _ _ (rfl)) (fun a S142 => ?_); clear S141
        refine S142.move (want_none rfl) rfl rfl rfl rfl (fun a S143 => ?_); clear S142
        refine S143.move (S143.sl.want rfl rfl rfl rfl rfl) rfl rfl rfl rfl (fun a S144 => ?_); clear S143
        refine S144.move (S144.sl.want rfl rfl rfl rfl rfl) rfl rfl rfl rfl (fun a S145 => ?_); clear S144
        refine S145.bin (S145.sl.want rfl rfl rfl rfl rfl) rfl rfl rfl rfl rfl (neqF Try.underlying2 _ _ _ _ (rfl)) (fun a S146 => ?_); clear S145
        refine S146.pickF (want_none rfl) rfl rfl rfl rfl rfl (fun a S147 => ?_); clear S146
        refine S147.move (want_none rfl) rfl rfl rfl rfl (fun a S148 => ?_); clear S147
        refine S148.loadR (S148.sl.want rfl rfl rfl rfl rfl) rfl rfl rfl rfl row54 35 rfl rfl (fun a S149 => ?_); clear S148
        refine S149.loadR (S149.sl.want rfl rfl rfl rfl rfl) rfl rfl rfl rfl row54 37 rfl rfl (fun a S150 => ?_); clear S149
        refine S150.bin (S150.sl.want rfl rfl rfl rfl rfl) rfl rfl rfl rfl rfl (neqBox _ _ _ _ _ _) (fun a S151 => ?_); clear S150
        refine S151.pickF (want_none rfl) rfl rfl rfl rfl rfl (fun a S152 => ?_); clear S151
        refine S152.move (want_none rfl) rfl rfl rfl rfl (fun a S153 => ?_); clear S152
        refine S153.move (S153.sl.want rfl rfl rfl rfl rfl) rfl rfl rfl rfl (fun a S154 => ?_); clear S153
        refine S154.bin (S154.sl.want rfl rfl rfl rfl rfl) rfl rfl rfl rfl rfl (by first | exact eqlF Try.underlying2 _ _ _ _ (by omega) | exact eqlT Try.underlying2 _ _ _ _ (by omega) | exact eqlI Try.underlying2 _ _ _ _) (fun a S155 => ?_); clear S154
        refine S155.move (S155.sl.want rfl rfl rfl rfl rfl) rfl rfl rfl rfl (fun a S156 => ?_); clear S155
        refine S156.builtin (S156.sl.want rfl rfl rfl rfl rfl) rfl rfl rfl rfl (lenS Try.underlying47 _ _ _ _ _) (fun a S157 => ?_); clear S156
        refine S157.bin (S157.sl.want rfl rfl rfl rfl rfl) rfl rfl rfl rfl rfl (by first | exact gtrF Try.underlying3 _ _ _ _ (by omega) | exact gtrT Try.underlying3 _ _ _ _ (by omega) | exact gtrI Try.underlying3 _ _ _ _) (fun a S158 => ?_); clear S157
        refine S158.bin (S158.sl.want rfl rfl rfl rfl rfl) rfl rfl rfl rfl rfl (neqB Try.underlying4 _ _ _ _) (fun a S159 => ?_); clear S158
        refine S159.pickF (want_none rfl) rfl rfl rfl rfl rfl (fun a S160 => ?_); clear S159
        refine wpList_n ?_
        refine then_n ?_
        refine S160.noB rfl (rfl) ?_
        refine wp_skip ?_
        refine then_n ?_
        refine wp_seq ?_
        refine wp_region_lit ?_
        refine S160.move (want_none rfl) rfl rfl rfl rfl (fun a S161 => ?_); clear S160
        refine S161.call (want_none rfl) rfl rfl rfl rfl Try.call21 (at_any _ 0 12 (by omega) (by omega) _ (H2.out.below S161.bag.below)) (fun e w hR => ?_)
        obtain ⟨x, rfl, hx1, hx2, rfl⟩ := hR
        refine ⟨_, rfl, fun a A => ?_⟩
        have S162 : St _ _ _ _ _ _ := ⟨A, S161.bag⟩; clear A S161
        refine S162.asg (want_none rfl) rfl rfl rfl rfl (fun a S163 => ?_); clear S162
        refine wpList_n ?_
        refine then_n ?_
        refine wp_seq ?_
        refine wp_region_lit ?_
        refine S163.move (want_none rfl) rfl rfl rfl rfl (fun a S164 => ?_); clear S163
        refine S164.call (want_none rfl) rfl rfl rfl rfl Try.call21 (at_any _ 1 12 (by omega) (by omega) _ (H2.out.below S164.bag.below)) (fun e w hR => ?_)
        obtain ⟨y, rfl, hy1, hy2, rfl⟩ := hR
        refine ⟨_, rfl, fun a A => ?_⟩
        have S165 : St _ _ _ _ _ _ := ⟨A, S164.bag⟩; clear A S164
        obtain ⟨x, rfl⟩ := Int.eq_ofNat_of_zero_le hx1
        obtain ⟨y, rfl⟩ := Int.eq_ofNat_of_zero_le hy1
        have hx : x < 12 := by omega
        have hy : y < 12 := by omega
        have hS1 := ok_setDot hf hx hy true
        have hS2 := ok_setDot hS1 hx hy false
        have hj : ((Fr.jump f (setDot f x y true) : Nat) : Int) = _ := Fr.jump_set hx hy
        rw [← row_bit_eq] at hj
        have hbit : 0 ≤ rowI ((f.row y) >>> x &&& 1#16) ∧ rowI ((f.row y) >>> x &&& 1#16) ≤ 1 := by rw [row_bit_eq]; split <;> omega
        refine S165.asg (want_none rfl) rfl rfl rfl rfl (fun a S166 => ?_); clear S165
        refine wpList_n ?_
        refine then_n ?_
        refine wp_seq ?_
        refine wp_region_lit ?_
        refine S166.loadF (want_none rfl) rfl rfl rfl rfl row26 5 rfl (fun a S167 => ?_); clear S166
        refine S167.move (want_none rfl) rfl rfl rfl rfl (fun a S168 => ?_); clear S167
        refine S168.move (want_none rfl) rfl rfl rfl rfl (fun a S169 => ?_); clear S168
        refine S169.callB (want_none rfl) rfl rfl rfl rfl Try.call47 (WithDot_ok f x y true _ hf hx hy) (fun a w hq2 S170 => ?_); clear S169 hq2
        refine S170.move (want_none rfl) rfl rfl rfl rfl (fun a S171 => ?_); clear S170
        refine S171.extract (want_none rfl) rfl rfl rfl rfl rfl (fun a S172 => ?_); clear S171
        refine S172.extract (want_none rfl) rfl rfl rfl rfl rfl (fun a S173 => ?_); clear S172
        refine S173.allocA (want_none rfl) rfl rfl rfl (Try.zeroValue26 _) cellsZ26 (fun b41 a w hq3 hq4 S174 => ?_); clear S173 hq3 hq4
        refine S174.storeF (want_none rfl) rfl rfl rfl rfl row26 41 rfl (fun a w S175 => ?_); clear S174
        refine S175.asg (want_none rfl) rfl rfl rfl rfl (fun a S176 => ?_); clear S175
        refine wpList_n ?_
        refine then_n ?_
        refine wp_seq ?_
        refine wp_region_lit ?_
        refine S176.loadF (want_none rfl) rfl rfl rfl rfl row26 41 rfl (fun a S177 => ?_); clear S176
        refine S177.move (want_none rfl) rfl rfl rfl rfl (fun a S178 => ?_); clear S177
        refine S178.move (want_none rfl) rfl rfl rfl rfl (fun a S179 => ?_); clear S178
        refine S179.callB (want_none rfl) rfl rfl rfl rfl Try.call47 (WithDot_ok _ x y false _ hS1 hx hy) (fun a w hq2 S180 => ?_); clear S179 hq2
        refine S180.move (want_none rfl) rfl rfl rfl rfl (fun a S181 => ?_); clear S180
        refine S181.extract (want_none rfl) rfl rfl rfl rfl rfl (fun a S182 => ?_); clear S181
        refine S182.extract (want_none rfl) rfl rfl rfl rfl rfl (fun a S183 => ?_); clear S182
        refine S183.allocA (want_none rfl) rfl rfl rfl (Try.zeroValue26 _) cellsZ26 (fun b43 a w hq3 hq4 S184 => ?_); clear S183 hq3 hq4
        refine S184.storeF (want_none rfl) rfl rfl rfl rfl row26 43 rfl (fun a w S185 => ?_); clear S184
        refine S185.asg (want_none rfl) rfl rfl rfl rfl (fun a S186 => ?_); clear S185
        refine wpList_n ?_
        refine then_n ?_
        refine wp_seq ?_
        refine wp_region_lit ?_
        refine S186.loadF (want_none rfl) rfl rfl rfl rfl row26 41 rfl (fun a S187 => ?_); clear S186
        refine S187.move (want_none rfl) rfl rfl rfl rfl (fun a S188 => ?_); clear S187
        refine S188.move (want_none rfl) rfl rfl rfl rfl (fun a S189 => ?_); clear S188
        refine S189.callB (want_none rfl) rfl rfl rfl rfl Try.call31 (by have := hasDot_ok (setDot f x y true) x y; rw [show (setDot f x y true).has (x : Int) (y : Int) = true from Fr.has_set hx hy] at this; exact this _ hS1 (isP_in hx hy)) (fun a w hq2 S190 => ?_); clear S189 hq2
        refine S190.move (want_none rfl) rfl rfl rfl rfl (fun a S191 => ?_); clear S190
        refine S191.extract (want_none rfl) rfl rfl rfl rfl rfl (fun a S192 => ?_); clear S191
        refine S192.extract (want_none rfl) rfl rfl rfl rfl rfl (fun a S193 => ?_); clear S192
        refine S193.asg (want_none rfl) rfl rfl rfl rfl (fun a S194 => ?_); clear S193
        refine S194.asg (want_none rfl) rfl rfl rfl rfl (fun a S195 => ?_); clear S194
        refine wpList_n ?_
        refine then_n ?_
        refine wp_seq ?_
        refine wp_region_lit ?_
        refine S195.loadF (want_none rfl) rfl rfl rfl rfl row26 43 rfl (fun a S196 => ?_); clear S195
        refine S196.move (want_none rfl) rfl rfl rfl rfl (fun a S197 => ?_); clear S196
        refine S197.move (want_none rfl) rfl rfl rfl rfl (fun a S198 => ?_); clear S197
        refine S198.callB (want_none rfl) rfl rfl rfl rfl Try.call31 (by have := hasDot_ok (setDot (setDot f x y true) x y false) x y; rw [show (setDot (setDot f x y true) x y false).has (x : Int) (y : Int) = false from Fr.has_struck hx hy] at this; exact this _ hS2 (isP_in hx hy)) (fun a w hq2 S199 => ?_); clear S198 hq2
        refine S199.move (want_none rfl) rfl rfl rfl rfl (fun a S200 => ?_); clear S199
        refine S200.extract (want_none rfl) rfl rfl rfl rfl rfl (fun a S201 => ?_); clear S200
        refine S201.extract (want_none rfl) rfl rfl rfl rfl rfl (fun a S202 => ?_); clear S201
        refine S202.asg (want_none rfl) rfl rfl rfl rfl (fun a S203 => ?_); clear S202
        refine S203.asg (want_none rfl) rfl rfl rfl rfl (fun a S204 => ?_); clear S203
        refine wpList_n ?_
        refine then_n ?_
        refine wp_seq ?_
        refine wp_region_lit ?_
        refine S204.loadF (want_none rfl) rfl rfl rfl rfl row26 43 rfl (fun a S205 => ?_); clear S204
        refine S205.move (want_none rfl) rfl rfl rfl rfl (fun a S206 => ?_); clear S205
        refine S206.move (want_none rfl) rfl rfl rfl rfl (fun a S207 => ?_); clear S206
        refine S207.callB (want_none rfl) rfl rfl rfl rfl Try.call43 (BlobAt_none _ x y _ hS2 hx hy (Fr.dot_struck hx hy)) (fun a w hq2 S208 => ?_); clear S207 hq2
        refine S208.move (want_none rfl) rfl rfl rfl rfl (fun a S209 => ?_); clear S208
        refine S209.extract (want_none rfl) rfl rfl rfl rfl rfl (fun a S210 => ?_); clear S209
        refine S210.extract (want_none rfl) rfl rfl rfl rfl rfl (fun a S211 => ?_); clear S210
        refine S211.allocA (want_none rfl) rfl rfl rfl (Try.zeroValue26 _) cellsZ26 (fun b49 a w hq3 hq4 S212 => ?_); clear S211 hq3 hq4
        refine S212.storeF (want_none rfl) rfl rfl rfl rfl row26 49 rfl (fun a w S213 => ?_); clear S212
        refine S213.asg (want_none rfl) rfl rfl rfl rfl (fun a S214 => ?_); clear S213
        refine wpList_n ?_
        refine then_n ?_
        refine wp_seq ?_
        refine wp_region_lit ?_
        refine S214.loadF (want_none rfl) rfl rfl rfl rfl row26 5 rfl (fun a S215 => ?_); clear S214
        refine S215.loadF (want_none rfl) rfl rfl rfl rfl row26 41 rfl (fun a S216 => ?_); clear S215
        refine S216.callB (want_none rfl) rfl rfl rfl rfl Try.call30 (differBy_ok f _ _ hf hS1) (fun a w hq2 S217 => ?_); clear S216 hq2
        refine S217.move (want_none rfl) rfl rfl rfl rfl (fun a S218 => ?_); clear S217
        refine S218.extract (want_none rfl) rfl rfl rfl rfl rfl (fun a S219 => ?_); clear S218
        refine S219.extract (want_none rfl) rfl rfl rfl rfl rfl (fun a S220 => ?_); clear S219
        refine S220.asg (want_none rfl) rfl rfl rfl rfl (fun a S221 => ?_); clear S220
        refine S221.asg (want_none rfl) rfl rfl rfl rfl (fun a S222 => ?_); clear S221
        refine wpList_n ?_
        refine then_n ?_
        refine wp_seq ?_
        refine wp_seq ?_
        refine wp_region_lit ?_
        refine S222.move (want_none rfl) rfl rfl rfl rfl (fun a S223 => ?_); clear S222
        refine S223.bin (want_none rfl) rfl rfl rfl rfl rfl (by first | exact neqF Try.underlying2 _ _ _ _ (by omega) | exact neqT Try.underlying2 _ _ _ _ (by omega) | exact neqI Try.underlying2 _ _ _ _) (fun a S224 => ?_); clear S223
        refine S224.move (want_none rfl) rfl rfl rfl rfl (fun a S225 => ?_); clear S224
        refine S225.move (S225.sl.want rfl rfl rfl rfl rfl) rfl rfl rfl rfl (fun a S226 => ?_); clear S225
        refine S226.move (S226.sl.want rfl rfl rfl rfl rfl) rfl rfl rfl rfl (fun a S227 => ?_); clear S226
        refine S227.indexA (S227.sl.want rfl rfl rfl rfl rfl) rfl rfl rfl rfl rfl (idxFr _ _ hy) (fun a S228 => ?_); clear S227
        refine S228.load1 (S228.sl.want rfl rfl rfl rfl rfl) rfl rfl rfl rfl one24 5 rfl (frC_at _ hy) (fun a S229 => ?_); clear S228
        refine S229.move (S229.sl.want rfl rfl rfl rfl rfl) rfl rfl rfl rfl (fun a S230 => ?_); clear S229
        refine S230.conv (S230.sl.want rfl rfl rfl rfl rfl) rfl rfl rfl rfl (convI Try.underlying2 Try.underlying41 _ (IntWalk.u64_in _ (by omega))) (fun a S231 => ?_); clear S230
        refine S231.bin (S231.sl.want rfl rfl rfl rfl rfl) rfl rfl rfl rfl rfl (shrR _ _ _ _ _) (fun a S232 => ?_); clear S231
        refine S232.bin (S232.sl.want rfl rfl rfl rfl rfl) rfl rfl rfl rfl rfl (and1R _ _ _) (fun a S233 => ?_); clear S232
        refine S233.conv (S233.sl.want rfl rfl rfl rfl rfl) rfl rfl rfl rfl (convI Try.underlying24 Try.underlying2 _ (IntWalk.i64_in _ (by omega))) (fun a S234 => ?_); clear S233
        refine S234.bin (S234.sl.want rfl rfl rfl rfl rfl) rfl rfl rfl rfl rfl (subI Try.underlying2 _ _ _ _ (IntWalk.i64_in _ (by omega))) (fun a S235 => ?_); clear S234
        refine S235.bin (S235.sl.want rfl rfl rfl rfl rfl) rfl rfl rfl rfl rfl (by first | exact neqF Try.underlying2 _ _ _ _ (by omega) | exact neqT Try.underlying2 _ _ _ _ (by omega) | exact neqI Try.underlying2 _ _ _ _) (fun a S236 => ?_); clear S235
        refine S236.pickF (want_none rfl) rfl rfl rfl rfl rfl (fun a S237 => ?_); clear S236
        refine wpList_n ?_
        refine then_n ?_
        refine S237.noB rfl (rfl) ?_
        refine wp_skip ?_
        refine then_n ?_
        refine wp_seq ?_
        refine wp_seq ?_
        refine wp_region_lit ?_
        refine S237.move (want_none rfl) rfl rfl rfl rfl (fun a S238 => ?_); clear S237
        refine S238.bin (want_none rfl) rfl rfl rfl rfl rfl (by first | exact neqF Try.underlying2 _ _ _ _ (by omega) | exact neqT Try.underlying2 _ _ _ _ (by omega) | exact neqI Try.underlying2 _ _ _ _) (fun a S239 => ?_); clear S238
        refine S239.move (want_none rfl) rfl rfl rfl rfl (fun a S240 => ?_); clear S239
        refine S240.move (S240.sl.want rfl rfl rfl rfl rfl) rfl rfl rfl rfl (fun a S241 => ?_); clear S240
        refine S241.bin (S241.sl.want rfl rfl rfl rfl rfl) rfl rfl rfl rfl rfl (by first | exact neqF Try.underlying2 _ _ _ _ (by omega) | exact neqT Try.underlying2 _ _ _ _ (by omega) | exact neqI Try.underlying2 _ _ _ _) (fun a S242 => ?_); clear S241
        refine S242.pickF (want_none rfl) rfl rfl rfl rfl rfl (fun a S243 => ?_); clear S242
        refine S243.move (want_none rfl) rfl rfl rfl rfl (fun a S244 => ?_); clear S243
        refine S244.move (S244.sl.want rfl rfl rfl rfl rfl) rfl rfl rfl rfl (fun a S245 => ?_); clear S244
        refine S245.bin (S245.sl.want rfl rfl rfl rfl rfl) rfl rfl rfl rfl rfl (by first | exact neqF Try.underlying2 _ _ _ _ (by omega) | exact neqT Try.underlying2 _ _ _ _ (by omega) | exact neqI Try.underlying2 _ _ _ _) (fun a S246 => ?_); clear S245
        refine S246.pickF (want_none rfl) rfl rfl rfl rfl rfl (fun a S247 => ?_); clear S246
        refine S247.move (want_none rfl) rfl rfl rfl rfl (fun a S248 => ?_); clear S247
        refine S248.move (S248.sl.want rfl rfl rfl rfl rfl) rfl rfl rfl rfl (fun a S249 => ?_); clear S248
        refine S249.un (S249.sl.want rfl rfl rfl rfl rfl) rfl rfl rfl rfl (notB _) (fun a S250 => ?_); clear S249
        refine S250.pickF (want_none rfl) rfl rfl rfl rfl rfl (fun a S251 => ?_); clear S250
        refine S251.move (want_none rfl) rfl rfl rfl rfl (fun a S252 => ?_); clear S251
        refine S252.move (S252.sl.want rfl rfl rfl rfl rfl) rfl rfl rfl rfl (fun a S253 => ?_); clear S252
        refine S253.bin (S253.sl.want rfl rfl rfl rfl rfl) rfl rfl rfl rfl rfl (by first | exact neqF Try.underlying2 _ _ _ _ (by omega) | exact neqT Try.underlying2 _ _ _ _ (by omega) | exact neqI Try.underlying2 _ _ _ _) (fun a S254 => ?_); clear S253
        refine S254.pickF (want_none rfl) rfl rfl rfl rfl rfl (fun a S255 => ?_); clear S254
        refine S255.move (want_none rfl) rfl rfl rfl rfl (fun a S256 => ?_); clear S255
        refine S256.move (S256.sl.want rfl rfl rfl rfl rfl) rfl rfl rfl rfl (fun a S257 => ?_); clear S256
        refine S257.pickF (want_none rfl) rfl rfl rfl rfl rfl (fun a S258 => ?_); clear S257
        refine S258.move (want_none rfl) rfl rfl rfl rfl (fun a S259 => ?_); clear S258
        refine S259.move (S259.sl.want rfl rfl rfl rfl rfl) rfl rfl rfl rfl (fun a S260 => ?_); clear S259
        refine S260.bin (S260.sl.want rfl rfl rfl rfl rfl) rfl rfl rfl rfl rfl (by first | exact neqF Try.underlying2 _ _ _ _ (by omega) | exact neqT Try.underlying2 _ _ _ _ (by omega) | exact neqI Try.underlying2 _ _ _ _) (fun a S261 => ?_); clear S260
        refine S261.pickF (want_none rfl) rfl rfl rfl rfl rfl (fun a S262 => ?_); clear S261
        refine wpList_n ?_
        refine then_n ?_
        refine S262.noB rfl (rfl) ?_
        refine wp_skip ?_
        refine then_n ?_
        refine wp_seq ?_
        refine wp_seq ?_
        refine wp_region_lit ?_
        refine S262.move (want_none rfl) rfl rfl rfl rfl (fun a S263 => ?_); clear S262
        refine S263.bin (want_none rfl) rfl rfl rfl rfl rfl (by first | exact neqF Try.underlying2 _ _ _ _ (by omega) | exact neqT Try.underlying2 _ _ _ _ (by omega) | exact neqI Try.underlying2 _ _ _ _) (fun a S264 => ?_); clear S263
        refine wpList_n ?_
        refine then_n ?_
        refine S264.noB rfl (rfl) ?_
        refine wp_skip ?_
        refine then_n ?_
        refine wp_seq ?_
        refine wp_region_lit ?_
        refine S264.loadF (want_none rfl) rfl rfl rfl rfl row26 5 rfl (fun a S265 => ?_); clear S264
        refine S265.loadR (want_none rfl) rfl rfl rfl rfl row54 37 rfl rfl (fun a S266 => ?_); clear S265
        refine S266.callB (want_none rfl) rfl rfl rfl rfl Try.call48 (by have := CutBox_ok f f.west f.north ((f.east : Int) - f.west + 1) ((f.south : Int) - f.north + 1); rw [Fr.cut_box hf] at this; exact this _ hf (by omega) (by omega) (by omega) (by omega) (by omega) (by omega)) (fun a w hq2 S267 => ?_); clear S266 hq2
        refine S267.move (want_none rfl) rfl rfl rfl rfl (fun a S268 => ?_); clear S267
        refine S268.extract (want_none rfl) rfl rfl rfl rfl rfl (fun a S269 => ?_); clear S268
        refine S269.extract (want_none rfl) rfl rfl rfl rfl rfl (fun a S270 => ?_); clear S269
        refine S270.allocA (want_none rfl) rfl rfl rfl (Try.zeroValue26 _) cellsZ26 (fun b53 a w hq3 hq4 S271 => ?_); clear S270 hq3 hq4
        refine S271.storeF (want_none rfl) rfl rfl rfl rfl row26 53 rfl (fun a w S272 => ?_); clear S271
        refine S272.asg (want_none rfl) rfl rfl rfl rfl (fun a S273 => ?_); clear S272
        refine wpList_n ?_
        refine then_n ?_
        refine wp_seq ?_
        refine wp_seq ?_
        refine wp_region_lit ?_
        refine S273.move (want_none rfl) rfl rfl rfl rfl (fun a S274 => ?_); clear S273
        refine S274.bin (want_none rfl) rfl rfl rfl rfl rfl (by first | exact neqF Try.underlying2 _ _ _ _ (by omega) | exact neqT Try.underlying2 _ _ _ _ (by omega) | exact neqI Try.underlying2 _ _ _ _) (fun a S275 => ?_); clear S274
        refine S275.move (want_none rfl) rfl rfl rfl rfl (fun a S276 => ?_); clear S275
        refine S276.loadF (S276.sl.want rfl rfl rfl rfl rfl) rfl rfl rfl rfl row26 53 rfl (fun a S277 => ?_); clear S276
        refine S277.loadF (S277.sl.want rfl rfl rfl rfl rfl) rfl rfl rfl rfl row26 5 rfl (fun a S278 => ?_); clear S277
        refine S278.bin (S278.sl.want rfl rfl rfl rfl rfl) rfl rfl rfl rfl rfl (neqFrF _ _ (rfl)) (fun a S279 => ?_); clear S278
        refine S279.pickF (want_none rfl) rfl rfl rfl rfl rfl (fun a S280 => ?_); clear S279
        refine wpList_n ?_
        refine then_n ?_
        refine S280.noB rfl (rfl) ?_
        refine wp_skip ?_
        refine then_n ?_
        refine wp_seq ?_
        refine wp_seq ?_
        refine wp_region_lit ?_
        refine S280.fieldA (want_none rfl) rfl rfl rfl rfl (fld54_2 _ _ _) (fun a S281 => ?_); clear S280
        refine S281.load1 (want_none rfl) rfl rfl rfl rfl one50 37 rfl rfl (fun a S282 => ?_); clear S281
        refine S282.bin (want_none rfl) rfl rfl rfl rfl rfl (gtrI Try.underlying50 _ _ _ _) (fun a S283 => ?_); clear S282
        refine wpList_n ?_
        refine then_n ?_
        refine S283.either rfl (fun hw => ?_) (fun hw => ?_)
        · skip
          refine wp_seq ?_
          have hw1 : 1 < (f.east : Int) - f.west + 1 := of_decide_eq_true hw
          have hne := Fr.cut_less hz (by omega)
          have hee : (f.east : Int) - f.west + 1 - 1 = f.east - f.west := by omega
          refine wp_region_lit ?_
          refine S283.loadF (want_none rfl) rfl rfl rfl rfl row26 5 rfl (fun a S284 => ?_); clear S283
          refine S284.fieldA (want_none rfl) rfl rfl rfl rfl (fld54_0 _ _ _) (fun a S285 => ?_); clear S284
          refine S285.load1 (want_none rfl) rfl rfl rfl rfl one50 37 rfl rfl (fun a S286 => ?_); clear S285
          refine S286.fieldA (want_none rfl) rfl rfl rfl rfl (fld54_1 _ _ _) (fun a S287 => ?_); clear S286
          refine S287.load1 (want_none rfl) rfl rfl rfl rfl one50 37 rfl rfl (fun a S288 => ?_); clear S287
          refine S288.fieldA (want_none rfl) rfl rfl rfl rfl (fld54_2 _ _ _) (fun a S289 => ?_); clear S288
          refine S289.load1 (want_none rfl) rfl rfl rfl rfl one50 37 rfl rfl (fun a S290 => ?_); clear S289
          refine S290.bin (want_none rfl) rfl rfl rfl rfl rfl (subI Try.underlying50 _ _ _ _ (IntWalk.i8_in _ (by omega))) (fun a S291 => ?_); clear S290
          refine S291.fieldA (want_none rfl) rfl rfl rfl rfl (fld54_3 _ _ _) (fun a S292 => ?_); clear S291
          refine S292.load1 (want_none rfl) rfl rfl rfl rfl one50 37 rfl rfl (fun a S293 => ?_); clear S292
          refine S293.buildP (want_none rfl) rfl rfl rfl [(0, _), (1, _), (2, _), (3, _)] ⟨rfl, rfl, rfl, rfl, rfl, rfl, rfl, rfl, trivial⟩ (build54_4 _ _ _ _ _ ) (fun a S294 => ?_); clear S293
          refine S294.callB (want_none rfl) rfl rfl rfl rfl Try.call48 (by have := CutBox_ok f f.west f.north ((f.east : Int) - f.west + 1 - 1) ((f.south : Int) - f.north + 1); rw [show f.cut f.west f.north ((f.east : Int) - f.west + 1 - 1) ((f.south : Int) - f.north + 1) = f.cut f.west f.north ((f.east : Int) - f.west) ((f.south : Int) - f.north + 1) from by rw [hee]] at this; exact this _ hf (by omega) (by omega) (by omega) (by omega) (by omega) (by omega)) (fun a w hq2 S295 => ?_); clear S294 hq2
          refine S295.move (want_none rfl) rfl rfl rfl rfl (fun a S296 => ?_); clear S295
          refine S296.extract (want_none rfl) rfl rfl rfl rfl rfl (fun a S297 => ?_); clear S296
          refine S297.extract (want_none rfl) rfl rfl rfl rfl rfl (fun a S298 => ?_); clear S297
          refine S298.allocA (want_none rfl) rfl rfl rfl (Try.zeroValue26 _) cellsZ26 (fun b55 a w hq3 hq4 S299 => ?_); clear S298 hq3 hq4
          refine S299.storeF (want_none rfl) rfl rfl rfl rfl row26 55 rfl (fun a w S300 => ?_); clear S299
          refine S300.asg (want_none rfl) rfl rfl rfl rfl (fun a S301 => ?_); clear S300
          refine wpList_n ?_
          refine then_n ?_
          refine wp_seq ?_
          refine wp_region_lit ?_
          refine S301.move (want_none rfl) rfl rfl rfl rfl (fun a S302 => ?_); clear S301
          refine S302.bin (want_none rfl) rfl rfl rfl rfl rfl (neqF Try.underlying2 _ _ _ _ (rfl)) (fun a S303 => ?_); clear S302
          refine S303.move (want_none rfl) rfl rfl rfl rfl (fun a S304 => ?_); clear S303
          refine S304.loadF (S304.sl.want rfl rfl rfl rfl rfl) rfl rfl rfl rfl row26 55 rfl (fun a S305 => ?_); clear S304
          refine S305.loadF (S305.sl.want rfl rfl rfl rfl rfl) rfl rfl rfl rfl row26 5 rfl (fun a S306 => ?_); clear S305
          refine S306.bin (S306.sl.want rfl rfl rfl rfl rfl) rfl rfl rfl rfl rfl (eqlFrF _ _ hne) (fun a S307 => ?_); clear S306
          refine S307.pickF (want_none rfl) rfl rfl rfl rfl rfl (fun a S308 => ?_); clear S307
          refine wpList_n ?_
          refine then_n ?_
          refine S308.noB rfl (rfl) ?_
          refine wp_skip ?_
          refine then_n ?_
          refine wp_seq ?_
          refine wp_region_lit ?_
          refine S308.asg (want_none rfl) rfl rfl rfl rfl (fun a S309 => ?_); clear S308
          refine wpList_n ?_
          refine then_n ?_
          refine wp_ret ?_
          exact S309.ret1 rfl rfl ⟨rfl, S309.bag.below⟩
        · skip
          refine wp_skip ?_
          refine then_n ?_
          refine wp_seq ?_
          refine wp_region_lit ?_
          refine S283.asg (want_none rfl) rfl rfl rfl rfl (fun a S284 => ?_); clear S283
          refine wpList_n ?_
          refine then_n ?_
          refine wp_ret ?_
          exact S284.ret1 rfl rfl ⟨rfl, S284.bag.below⟩
end Go.Proofs.Ythhimlicaiifdaa
