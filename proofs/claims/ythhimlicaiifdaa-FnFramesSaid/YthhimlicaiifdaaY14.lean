/- The law on frames: its walk. -/
import Derived.Test.YthhimlicaiifdaaY13
import Derived.Test.YthhimlicaiifdaaS1
import Derived.Test.YthhimlicaiifdaaFrE
set_option maxRecDepth 100000
set_option linter.unusedSimpArgs false
set_option linter.unusedVariables false
namespace Go.Proofs.Ythhimlicaiifdaa
open Go.RowKit Fb

/-- Turned so many times. -/
def tn (f : Fr) : Nat → Fr
  | 0 => f
  | k + 1 => (tn f k).turn
theorem tn_ok {f : Fr} (h : f.ok = true) (k : Nat) : (tn f k).ok = true := by
  cases k with
  | zero => exact h
  | succ k =>
    show (tn f k).turn.ok = true
    unfold Fr.turn
    exact Fr.ok_ofHas _
theorem tn_four {f : Fr} (h : f.ok = true) : tn f 4 = f := Fr.turn4 h

theorem CodeAt.slice {w : World} {v : Value} (h : CodeAt w v) : ∃ A n c, v = .slice A n c := by
  obtain ⟨A, c, bs, rfl, _⟩ := h
  exact ⟨_, _, _, rfl⟩
theorem valid_ok (f : Fr) (w : World) (hf : f.ok = true) : Calls Try.prog 20 #[frV f] w (RetB (.bool true) w) := by
  have := valid_any f w
  rwa [hf] at this
theorem has_row {f : Fr} {x y : Nat} (hx : x < 12) (hy : y < 12) : f.has (x : Int) (y : Int) = (f.row y).getLsbD x := by
  rw [Fr.has_nat]; simp [hx, hy, Fr.dot]
theorem diff_yes {f g : Fr} {j k : Nat} (hj : j < 12) (hk : k < 12) (h : (!(f.has (j : Int) (k : Int) == g.has (j : Int) (k : Int))) = true) : ((Fr.diffTo f g k (j + 1) : Nat) : Int) = (Fr.diffTo f g k j : Int) + 1 := by
  rw [Fr.diffTo_step, Fr.dot_of_place f hj hk, Fr.dot_of_place g hj hk, if_pos (by simpa using h)]
  omega
theorem diff_no {f g : Fr} {j k : Nat} (hj : j < 12) (hk : k < 12) (h : (!(f.has (j : Int) (k : Int) == g.has (j : Int) (k : Int))) = false) : Fr.diffTo f g k (j + 1) = Fr.diffTo f g k j := by
  rw [Fr.diffTo_step, Fr.dot_of_place f hj hk, Fr.dot_of_place g hj hk, if_neg (by simpa using h)]
  omega
theorem bsDot (w : World) : (Instr.buildSlice 42 0 #[]).run Try.prog w = .ok (.slice (some ⟨w.heap.size, 0, none⟩) 0 0) (w.alloc (.cells #[] 52)) := by kernel_rfl
theorem dots_in_of {f : Fr} : ∀ p, p ∈ f.dots ++ f.dots → p.1 < 12 ∧ p.2 < 12 := by
  intro p hp
  have hp' : p ∈ f.dots := by
    rcases List.mem_append.1 hp with h | h <;> exact h
  have := (Fr.mem_dots f p.1 p.2).1 hp'
  exact ⟨this.1, this.2.1⟩
theorem jump_eq {f g : Fr} (hf : f.ok = true) (hg : g.ok = true) : (!((((Fr.jump f g : Nat) : Int) == 0) == decide (f = g))) = false := by
  have h := Fr.jump_zero_iff hf hg
  by_cases e : f = g
  · have h0 : Fr.jump f g = 0 := h.2 e
    rw [h0]; simp [e]
  · have h0 : Fr.jump f g ≠ 0 := fun k => e (h.1 k)
    have : (((Fr.jump f g : Nat) : Int) == 0) = false := by simpa using h0
    rw [this]; simp [e]

set_option maxHeartbeats 4000000 in
theorem fnFrames_walk (v1 v2 : Value) (w0 : World) (h1 : CodeAt w0 v1) (h2 : CodeAt w0 v2) : Calls Try.prog 3 #[v1, v2] w0 (RetB (.bool true) w0) := by
  have H1 := Lib.hid h1
  have H2 := Lib.hid h2
  obtain ⟨A1, n1, c1, rfl⟩ := h1.slice
  obtain ⟨A2, n2, c2, rfl⟩ := h2.slice
  clear h1 h2
  generalize hn : 597 = n
  subst hn
  refine St.enter Try.func3 rfl (show _ = 597 from rfl) rfl (L := [(0, _), (1, _)]) rfl (fun a S0 => ?_)
  refine wp_seq ?_
  refine wp_region_lit ?_
  refine S0.asg (want_none rfl) rfl rfl rfl rfl (fun a S1 => ?_); clear S0
  refine wpList_n ?_
  refine then_n ?_
  refine wp_seq ?_
  refine wp_seq ?_
  refine wp_region_lit ?_
  refine S1.move (want_none rfl) rfl rfl rfl rfl (fun a S2 => ?_); clear S1
  refine S2.move (want_none rfl) rfl rfl rfl rfl (fun a S3 => ?_); clear S2
  refine S3.call (want_none rfl) rfl rfl rfl rfl Try.call8 (long_any _ _ _ _ _ _ _) (fun e w hR => ?_)
  obtain ⟨p, rfl, rfl⟩ := hR
  refine ⟨_, rfl, fun a A => ?_⟩
  have S4 : St _ _ _ _ _ _ := ⟨A, S3.bag⟩; clear A S3
  refine wpList_n ?_
  refine then_n ?_
  refine S4.either rfl (fun hp => ?_) (fun hp => ?_)
  · skip
    refine wp_seq ?_
    refine wp_region_lit ?_
    refine S4.asg (want_none rfl) rfl rfl rfl rfl (fun a S5 => ?_); clear S4
    refine wpList_n ?_
    refine then_n ?_
    refine wp_ret ?_
    refine then_r ?_
    exact S5.ret1 rfl rfl ⟨rfl, S5.bag.below⟩
  · skip
    refine wp_skip ?_
    refine then_n ?_
    refine wp_seq ?_
    refine wp_region_lit ?_
    refine S4.move (want_none rfl) rfl rfl rfl rfl (fun a S5 => ?_); clear S4
    refine S5.call (want_none rfl) rfl rfl rfl rfl Try.call9 (aFrame_any _ _ (H1.out.below S5.bag.below)) (fun e w hR => ?_)
    obtain ⟨f, rfl, hf, hb⟩ := hR
    refine ⟨_, rfl, fun a A => ?_⟩
    have S6 : St _ _ _ _ _ _ := ⟨A, S5.bag.call hb⟩; clear A S5
    refine S6.allocA (want_none rfl) rfl rfl rfl (Try.zeroValue26 _) cellsZ26 (fun b5 a w hq3 hq4 S7 => ?_); clear S6 hq3 hq4
    refine S7.storeF (want_none rfl) rfl rfl rfl rfl row26 5 rfl (fun a w S8 => ?_); clear S7
    refine wpList_n ?_
    refine then_n ?_
    refine wp_seq ?_
    refine wp_region_lit ?_
    refine S8.move (want_none rfl) rfl rfl rfl rfl (fun a S9 => ?_); clear S8
    refine S9.call (want_none rfl) rfl rfl rfl rfl Try.call9 (aFrame_any _ _ (H2.out.below S9.bag.below)) (fun e w hR => ?_)
    obtain ⟨g, rfl, hg, hb⟩ := hR
    refine ⟨_, rfl, fun a A => ?_⟩
    have S10 : St _ _ _ _ _ _ := ⟨A, S9.bag.call hb⟩; clear A S9
    refine S10.allocA (want_none rfl) rfl rfl rfl (Try.zeroValue26 _) cellsZ26 (fun b6 a w hq3 hq4 S11 => ?_); clear S10 hq3 hq4
    refine S11.storeF (want_none rfl) rfl rfl rfl rfl row26 6 rfl (fun a w S12 => ?_); clear S11
    refine wpList_n ?_
    refine then_n ?_
    refine wp_seq ?_
    refine wp_region_lit ?_
    refine S12.loadF (want_none rfl) rfl rfl rfl rfl row26 5 rfl (fun a S13 => ?_); clear S12
    refine S13.callB (want_none rfl) rfl rfl rfl rfl Try.call11 (FrameText_ok f _ hf) (fun a w hq2 S14 => ?_); clear S13 hq2
    refine S14.callB (want_none rfl) rfl rfl rfl rfl Try.call10 (ReadFrame_ok f _ hf) (fun a w hq2 S15 => ?_); clear S14 hq2
    refine S15.move (want_none rfl) rfl rfl rfl rfl (fun a S16 => ?_); clear S15
    refine S16.extract (want_none rfl) rfl rfl rfl rfl rfl (fun a S17 => ?_); clear S16
    refine S17.extract (want_none rfl) rfl rfl rfl rfl rfl (fun a S18 => ?_); clear S17
    refine S18.allocA (want_none rfl) rfl rfl rfl (Try.zeroValue26 _) cellsZ26 (fun b7 a w hq3 hq4 S19 => ?_); clear S18 hq3 hq4
    refine S19.storeF (want_none rfl) rfl rfl rfl rfl row26 7 rfl (fun a w S20 => ?_); clear S19
    refine S20.asg (want_none rfl) rfl rfl rfl rfl (fun a S21 => ?_); clear S20
    refine wpList_n ?_
    refine then_n ?_
    refine wp_seq ?_
    refine wp_region_lit ?_
    refine S21.loadF (want_none rfl) rfl rfl rfl rfl row26 5 rfl (fun a S22 => ?_); clear S21
    refine S22.allocA (want_none rfl) rfl rfl rfl (Try.zeroValue26 _) cellsZ26 (fun b9 a w hq3 hq4 S23 => ?_); clear S22 hq3 hq4
    refine S23.storeF (want_none rfl) rfl rfl rfl rfl row26 9 rfl (fun a w S24 => ?_); clear S23
    refine wpList_n ?_
    refine then_n ?_
    refine wp_seq ?_
    refine wp_seq ?_
    refine wp_region_lit ?_
    refine S24.asg (want_none rfl) rfl rfl rfl rfl (fun a S25 => ?_); clear S24
    refine wpList_n ?_
    refine then_n ?_
    refine wp_block ?_
    refine wp_loopN (fun m a w => ∃ k : Nat, k ≤ 4 ∧ m = 4 - k ∧ St w0 597 [(1, .slice A2 n2 c2), (5, .pointer (some ⟨b5, 0, none⟩)), (6, .pointer (some ⟨b6, 0, none⟩)), (7, .pointer (some ⟨b7, 0, none⟩)), (8, .int .i64 0), (9, .pointer (some ⟨b9, 0, none⟩)), (10, .int .i64 (k : Nat))] [(5, blk b5 (frC f) 26), (6, blk b6 (frC g) 26), (7, blk b7 (frC f) 26), (9, blk b9 (frC (tn f k)) 26)] a w) (4) (⟨0, by omega, rfl, S25.to ⟨rfl, rfl, rfl, rfl, rfl, rfl, rfl, trivial⟩ ⟨rfl, rfl, rfl, rfl, trivial⟩⟩) (fun m a w hI => ?_)
    obtain ⟨k, hk, rfl, S26⟩ := hI
    refine wp_seq ?_
    refine wp_seq ?_
    refine wp_region_lit ?_
    refine S26.move (want_none rfl) rfl rfl rfl rfl (fun a S27 => ?_); clear S26
    refine S27.bin (want_none rfl) rfl rfl rfl rfl rfl (lssI Try.underlying3 _ _ _ _) (fun a S28 => ?_); clear S27
    refine wpList_n ?_
    refine then_n ?_
    refine S28.either rfl (fun hlt => ?_) (fun hlt => ?_)
    · skip
      refine wp_skip ?_
      refine then_n ?_
      refine wp_seq ?_
      refine wp_block ?_
      refine wp_seq ?_
      refine wp_region_lit ?_
      have hlt : k < 4 := by have := of_decide_eq_true hlt; omega
      have hn := tn_ok hf k
      refine S28.loadF (want_none rfl) rfl rfl rfl rfl row26 9 rfl (fun a S29 => ?_); clear S28
      refine S29.callB (want_none rfl) rfl rfl rfl rfl Try.call12 (turn_ok _ _ hn) (fun a w hq2 S30 => ?_); clear S29 hq2
      refine S30.move (want_none rfl) rfl rfl rfl rfl (fun a S31 => ?_); clear S30
      refine S31.extract (want_none rfl) rfl rfl rfl rfl rfl (fun a S32 => ?_); clear S31
      refine S32.extract (want_none rfl) rfl rfl rfl rfl rfl (fun a S33 => ?_); clear S32
      refine S33.allocA (want_none rfl) rfl rfl rfl (Try.zeroValue26 _) cellsZ26 (fun b11 a w hq3 hq4 S34 => ?_); clear S33 hq3 hq4
      refine S34.storeF (want_none rfl) rfl rfl rfl rfl row26 11 rfl (fun a w S35 => ?_); clear S34
      refine S35.asg (want_none rfl) rfl rfl rfl rfl (fun a S36 => ?_); clear S35
      refine wpList_n ?_
      refine then_n ?_
      refine wp_seq ?_
      refine wp_region_lit ?_
      refine S36.loadF (want_none rfl) rfl rfl rfl rfl row26 9 rfl (fun a S37 => ?_); clear S36
      refine S37.callB (want_none rfl) rfl rfl rfl rfl Try.call13 (sTurn_ok _ _ hn) (fun a w hq2 S38 => ?_); clear S37 hq2
      refine S38.move (want_none rfl) rfl rfl rfl rfl (fun a S39 => ?_); clear S38
      refine S39.extract (want_none rfl) rfl rfl rfl rfl rfl (fun a S40 => ?_); clear S39
      refine S40.extract (want_none rfl) rfl rfl rfl rfl rfl (fun a S41 => ?_); clear S40
      refine S41.allocA (want_none rfl) rfl rfl rfl (Try.zeroValue26 _) cellsZ26 (fun b13 a w hq3 hq4 S42 => ?_); clear S41 hq3 hq4
      refine S42.storeF (want_none rfl) rfl rfl rfl rfl row26 13 rfl (fun a w S43 => ?_); clear S42
      refine S43.asg (want_none rfl) rfl rfl rfl rfl (fun a S44 => ?_); clear S43
      refine wpList_n ?_
      refine then_n ?_
      refine wp_seq ?_
      refine wp_seq ?_
      refine wp_region_lit ?_
      refine S44.move (want_none rfl) rfl rfl rfl rfl (fun a S45 => ?_); clear S44
      refine S45.move (want_none rfl) rfl rfl rfl rfl (fun a S46 => ?_); clear S45
      refine S46.bin (want_none rfl) rfl rfl rfl rfl rfl (by first | exact neqF Try.underlying2 _ _ _ _ (by omega) | exact neqT Try.underlying2 _ _ _ _ (by omega) | exact neqI Try.underlying2 _ _ _ _) (fun a S47 => ?_); clear S46
      refine S47.move (want_none rfl) rfl rfl rfl rfl (fun a S48 => ?_); clear S47
      refine S48.move (S48.sl.want rfl rfl rfl rfl rfl) rfl rfl rfl rfl (fun a S49 => ?_); clear S48
      refine S49.bin (S49.sl.want rfl rfl rfl rfl rfl) rfl rfl rfl rfl rfl (by first | exact neqF Try.underlying2 _ _ _ _ (by omega) | exact neqT Try.underlying2 _ _ _ _ (by omega) | exact neqI Try.underlying2 _ _ _ _) (fun a S50 => ?_); clear S49
      refine S50.pickF (want_none rfl) rfl rfl rfl rfl rfl (fun a S51 => ?_); clear S50
      refine S51.move (want_none rfl) rfl rfl rfl rfl (fun a S52 => ?_); clear S51
      refine S52.loadF (S52.sl.want rfl rfl rfl rfl rfl) rfl rfl rfl rfl row26 11 rfl (fun a S53 => ?_); clear S52
      refine S53.loadF (S53.sl.want rfl rfl rfl rfl rfl) rfl rfl rfl rfl row26 13 rfl (fun a S54 => ?_); clear S53
      refine S54.bin (S54.sl.want rfl rfl rfl rfl rfl) rfl rfl rfl rfl rfl (by first | exact neqFrF _ _ rfl | exact neqFr _ _ _ _) (fun a S55 => ?_); clear S54
      refine S55.pickF (want_none rfl) rfl rfl rfl rfl rfl (fun a S56 => ?_); clear S55
      refine wpList_n ?_
      refine then_n ?_
      refine S56.noB rfl (rfl) ?_
      refine wp_skip ?_
      refine then_n ?_
      refine wp_region_lit ?_
      refine S56.loadF (want_none rfl) rfl rfl rfl rfl row26 13 rfl (fun a S57 => ?_); clear S56
      refine S57.storeF (want_none rfl) rfl rfl rfl rfl row26 9 rfl (fun a w S58 => ?_); clear S57
      refine wpList_n ?_
      refine blk_n ?_
      refine then_n ?_
      refine wp_region_lit ?_
      refine S58.move (want_none rfl) rfl rfl rfl rfl (fun a S59 => ?_); clear S58
      refine S59.bin (want_none rfl) rfl rfl rfl rfl rfl (addI Try.underlying3 _ _ _ _ (IntWalk.i64_in _ (by omega))) (fun a S60 => ?_); clear S59
      refine S60.asg (want_none rfl) rfl rfl rfl rfl (fun a S61 => ?_); clear S60
      refine wpList_n ?_
      refine then_n ?_
      exact ⟨4 - (k + 1), by omega, k + 1, by omega, rfl, S61.to ⟨rfl, rfl, rfl, rfl, rfl, rfl, rfl, trivial⟩ ⟨rfl, rfl, rfl, rfl, trivial⟩⟩
    · skip
      refine wp_exit ?_
      refine then_e ?_
      refine then_e ?_
      refine blk_e ?_
      refine then_n ?_
      refine wp_seq ?_
      refine wp_region_lit ?_
      obtain rfl : k = 4 := by have := of_decide_eq_false hlt; omega
      rw [tn_four hf] at S28
      refine S28.loadF (want_none rfl) rfl rfl rfl rfl row26 5 rfl (fun a S29 => ?_); clear S28
      refine S29.callB (want_none rfl) rfl rfl rfl rfl Try.call14 (mirror_ok f _ hf) (fun a w hq2 S30 => ?_); clear S29 hq2
      refine S30.move (want_none rfl) rfl rfl rfl rfl (fun a S31 => ?_); clear S30
      refine S31.extract (want_none rfl) rfl rfl rfl rfl rfl (fun a S32 => ?_); clear S31
      refine S32.extract (want_none rfl) rfl rfl rfl rfl rfl (fun a S33 => ?_); clear S32
      refine S33.allocA (want_none rfl) rfl rfl rfl (Try.zeroValue26 _) cellsZ26 (fun b15 a w hq3 hq4 S34 => ?_); clear S33 hq3 hq4
      refine S34.storeF (want_none rfl) rfl rfl rfl rfl row26 15 rfl (fun a w S35 => ?_); clear S34
      refine S35.asg (want_none rfl) rfl rfl rfl rfl (fun a S36 => ?_); clear S35
      refine wpList_n ?_
      refine then_n ?_
      refine wp_seq ?_
      refine wp_region_lit ?_
      refine S36.loadF (want_none rfl) rfl rfl rfl rfl row26 5 rfl (fun a S37 => ?_); clear S36
      refine S37.callB (want_none rfl) rfl rfl rfl rfl Try.call15 (sMirror_ok f _ hf) (fun a w hq2 S38 => ?_); clear S37 hq2
      refine S38.move (want_none rfl) rfl rfl rfl rfl (fun a S39 => ?_); clear S38
      refine S39.extract (want_none rfl) rfl rfl rfl rfl rfl (fun a S40 => ?_); clear S39
      refine S40.extract (want_none rfl) rfl rfl rfl rfl rfl (fun a S41 => ?_); clear S40
      refine S41.allocA (want_none rfl) rfl rfl rfl (Try.zeroValue26 _) cellsZ26 (fun b17 a w hq3 hq4 S42 => ?_); clear S41 hq3 hq4
      refine S42.storeF (want_none rfl) rfl rfl rfl rfl row26 17 rfl (fun a w S43 => ?_); clear S42
      refine S43.asg (want_none rfl) rfl rfl rfl rfl (fun a S44 => ?_); clear S43
      refine wpList_n ?_
      refine then_n ?_
      refine wp_seq ?_
      refine wp_region_lit ?_
      refine S44.loadF (want_none rfl) rfl rfl rfl rfl row26 17 rfl (fun a S45 => ?_); clear S44
      refine S45.callB (want_none rfl) rfl rfl rfl rfl Try.call14 (mirror_ok f.mirror _ (Fr.ok_ofHas _)) (fun a w hq2 S46 => ?_); clear S45 hq2
      refine S46.move (want_none rfl) rfl rfl rfl rfl (fun a S47 => ?_); clear S46
      refine S47.extract (want_none rfl) rfl rfl rfl rfl rfl (fun a S48 => ?_); clear S47
      refine S48.extract (want_none rfl) rfl rfl rfl rfl rfl (fun a S49 => ?_); clear S48
      refine S49.allocA (want_none rfl) rfl rfl rfl (Try.zeroValue26 _) cellsZ26 (fun b19 a w hq3 hq4 S50 => ?_); clear S49 hq3 hq4
      refine S50.storeF (want_none rfl) rfl rfl rfl rfl row26 19 rfl (fun a w S51 => ?_); clear S50
      refine S51.asg (want_none rfl) rfl rfl rfl rfl (fun a S52 => ?_); clear S51
      refine wpList_n ?_
      refine then_n ?_
      refine wp_seq ?_
      refine wp_region_lit ?_
      refine S52.loadF (want_none rfl) rfl rfl rfl rfl row26 5 rfl (fun a S53 => ?_); clear S52
      refine S53.callB (want_none rfl) rfl rfl rfl rfl Try.call16 (flip_ok f _ hf) (fun a w hq2 S54 => ?_); clear S53 hq2
      refine S54.move (want_none rfl) rfl rfl rfl rfl (fun a S55 => ?_); clear S54
      refine S55.extract (want_none rfl) rfl rfl rfl rfl rfl (fun a S56 => ?_); clear S55
      refine S56.extract (want_none rfl) rfl rfl rfl rfl rfl (fun a S57 => ?_); clear S56
      refine S57.allocA (want_none rfl) rfl rfl rfl (Try.zeroValue26 _) cellsZ26 (fun b21 a w hq3 hq4 S58 => ?_); clear S57 hq3 hq4
      refine S58.storeF (want_none rfl) rfl rfl rfl rfl row26 21 rfl (fun a w S59 => ?_); clear S58
      refine S59.asg (want_none rfl) rfl rfl rfl rfl (fun a S60 => ?_); clear S59
      refine wpList_n ?_
      refine then_n ?_
      refine wp_seq ?_
      refine wp_region_lit ?_
      refine S60.loadF (want_none rfl) rfl rfl rfl rfl row26 5 rfl (fun a S61 => ?_); clear S60
      refine S61.callB (want_none rfl) rfl rfl rfl rfl Try.call17 (sFlip_ok f _ hf) (fun a w hq2 S62 => ?_); clear S61 hq2
      refine S62.move (want_none rfl) rfl rfl rfl rfl (fun a S63 => ?_); clear S62
      refine S63.extract (want_none rfl) rfl rfl rfl rfl rfl (fun a S64 => ?_); clear S63
      refine S64.extract (want_none rfl) rfl rfl rfl rfl rfl (fun a S65 => ?_); clear S64
      refine S65.allocA (want_none rfl) rfl rfl rfl (Try.zeroValue26 _) cellsZ26 (fun b23 a w hq3 hq4 S66 => ?_); clear S65 hq3 hq4
      refine S66.storeF (want_none rfl) rfl rfl rfl rfl row26 23 rfl (fun a w S67 => ?_); clear S66
      refine S67.asg (want_none rfl) rfl rfl rfl rfl (fun a S68 => ?_); clear S67
      refine wpList_n ?_
      refine then_n ?_
      refine wp_seq ?_
      refine wp_region_lit ?_
      refine S68.loadF (want_none rfl) rfl rfl rfl rfl row26 23 rfl (fun a S69 => ?_); clear S68
      refine S69.callB (want_none rfl) rfl rfl rfl rfl Try.call16 (flip_ok f.flip _ (Fr.ok_flip hf)) (fun a w hq2 S70 => ?_); clear S69 hq2
      refine S70.move (want_none rfl) rfl rfl rfl rfl (fun a S71 => ?_); clear S70
      refine S71.extract (want_none rfl) rfl rfl rfl rfl rfl (fun a S72 => ?_); clear S71
      refine S72.extract (want_none rfl) rfl rfl rfl rfl rfl (fun a S73 => ?_); clear S72
      refine S73.allocA (want_none rfl) rfl rfl rfl (Try.zeroValue26 _) cellsZ26 (fun b25 a w hq3 hq4 S74 => ?_); clear S73 hq3 hq4
      refine S74.storeF (want_none rfl) rfl rfl rfl rfl row26 25 rfl (fun a w S75 => ?_); clear S74
      refine S75.asg (want_none rfl) rfl rfl rfl rfl (fun a S76 => ?_); clear S75
      refine wpList_n ?_
      refine then_n ?_
      refine wp_seq ?_
      refine wp_region_lit ?_
      refine S76.loadF (want_none rfl) rfl rfl rfl rfl row26 5 rfl (fun a S77 => ?_); clear S76
      refine S77.callB (want_none rfl) rfl rfl rfl rfl Try.call18 (invert_ok f _ hf) (fun a w hq2 S78 => ?_); clear S77 hq2
      refine S78.move (want_none rfl) rfl rfl rfl rfl (fun a S79 => ?_); clear S78
      refine S79.extract (want_none rfl) rfl rfl rfl rfl rfl (fun a S80 => ?_); clear S79
      refine S80.extract (want_none rfl) rfl rfl rfl rfl rfl (fun a S81 => ?_); clear S80
      refine S81.allocA (want_none rfl) rfl rfl rfl (Try.zeroValue26 _) cellsZ26 (fun b27 a w hq3 hq4 S82 => ?_); clear S81 hq3 hq4
      refine S82.storeF (want_none rfl) rfl rfl rfl rfl row26 27 rfl (fun a w S83 => ?_); clear S82
      refine S83.asg (want_none rfl) rfl rfl rfl rfl (fun a S84 => ?_); clear S83
      refine wpList_n ?_
      refine then_n ?_
      refine wp_seq ?_
      refine wp_region_lit ?_
      refine S84.loadF (want_none rfl) rfl rfl rfl rfl row26 5 rfl (fun a S85 => ?_); clear S84
      refine S85.callB (want_none rfl) rfl rfl rfl rfl Try.call19 (sInvert_ok f _ hf) (fun a w hq2 S86 => ?_); clear S85 hq2
      refine S86.move (want_none rfl) rfl rfl rfl rfl (fun a S87 => ?_); clear S86
      refine S87.extract (want_none rfl) rfl rfl rfl rfl rfl (fun a S88 => ?_); clear S87
      refine S88.extract (want_none rfl) rfl rfl rfl rfl rfl (fun a S89 => ?_); clear S88
      refine S89.allocA (want_none rfl) rfl rfl rfl (Try.zeroValue26 _) cellsZ26 (fun b29 a w hq3 hq4 S90 => ?_); clear S89 hq3 hq4
      refine S90.storeF (want_none rfl) rfl rfl rfl rfl row26 29 rfl (fun a w S91 => ?_); clear S90
      refine S91.asg (want_none rfl) rfl rfl rfl rfl (fun a S92 => ?_); clear S91
      refine wpList_n ?_
      refine then_n ?_
      refine wp_seq ?_
      refine wp_region_lit ?_
      refine S92.loadF (want_none rfl) rfl rfl rfl rfl row26 29 rfl (fun a S93 => ?_); clear S92
      refine S93.callB (want_none rfl) rfl rfl rfl rfl Try.call18 (invert_ok f.invert _ (Fr.ok_invert f)) (fun a w hq2 S94 => ?_); clear S93 hq2
      refine S94.move (want_none rfl) rfl rfl rfl rfl (fun a S95 => ?_); clear S94
      refine S95.extract (want_none rfl) rfl rfl rfl rfl rfl (fun a S96 => ?_); clear S95
      refine S96.extract (want_none rfl) rfl rfl rfl rfl rfl (fun a S97 => ?_); clear S96
      refine S97.allocA (want_none rfl) rfl rfl rfl (Try.zeroValue26 _) cellsZ26 (fun b31 a w hq3 hq4 S98 => ?_); clear S97 hq3 hq4
      refine S98.storeF (want_none rfl) rfl rfl rfl rfl row26 31 rfl (fun a w S99 => ?_); clear S98
      refine S99.asg (want_none rfl) rfl rfl rfl rfl (fun a S100 => ?_); clear S99
      refine wpList_n ?_
      refine then_n ?_
      refine wp_seq ?_
      refine wp_seq ?_
      refine wp_region_lit ?_
      refine S100.move (want_none rfl) rfl rfl rfl rfl (fun a S101 => ?_); clear S100
      refine S101.bin (want_none rfl) rfl rfl rfl rfl rfl (by first | exact neqF Try.underlying2 _ _ _ _ (by omega) | exact neqT Try.underlying2 _ _ _ _ (by omega) | exact neqI Try.underlying2 _ _ _ _) (fun a S102 => ?_); clear S101
      refine S102.move (want_none rfl) rfl rfl rfl rfl (fun a S103 => ?_); clear S102
      refine S103.loadF (S103.sl.want rfl rfl rfl rfl rfl) rfl rfl rfl rfl row26 7 rfl (fun a S104 => ?_); clear S103
      refine S104.loadF (S104.sl.want rfl rfl rfl rfl rfl) rfl rfl rfl rfl row26 5 rfl (fun a S105 => ?_); clear S104
      refine S105.bin (S105.sl.want rfl rfl rfl rfl rfl) rfl rfl rfl rfl rfl (neqFrF _ _ (rfl)) (fun a S106 => ?_); clear S105
      refine S106.pickF (want_none rfl) rfl rfl rfl rfl rfl (fun a S107 => ?_); clear S106
      refine S107.move (want_none rfl) rfl rfl rfl rfl (fun a S108 => ?_); clear S107
      refine S108.loadF (S108.sl.want rfl rfl rfl rfl rfl) rfl rfl rfl rfl row26 5 rfl (fun a S109 => ?_); clear S108
      refine S109.callB (S109.sl.want rfl rfl rfl rfl rfl) rfl rfl rfl rfl Try.call20 (valid_ok f _ hf) (fun a w hq2 S110 => ?_); clear S109 hq2
      refine S110.un (S110.sl.want rfl rfl rfl rfl rfl) rfl rfl rfl rfl (notB _) (fun a S111 => ?_); clear S110
      refine S111.pickF (want_none rfl) rfl rfl rfl rfl rfl (fun a S112 => ?_); clear S111
      refine S112.move (want_none rfl) rfl rfl rfl rfl (fun a S113 => ?_); clear S112
      refine S113.loadF (S113.sl.want rfl rfl rfl rfl rfl) rfl rfl rfl rfl row26 9 rfl (fun a S114 => ?_); clear S113
      refine S114.loadF (S114.sl.want rfl rfl rfl rfl rfl) rfl rfl rfl rfl row26 5 rfl (fun a S115 => ?_); clear S114
      refine S115.bin (S115.sl.want rfl rfl rfl rfl rfl) rfl rfl rfl rfl rfl (neqFrF _ _ (rfl)) (fun a S116 => ?_); clear S115
      refine S116.pickF (want_none rfl) rfl rfl rfl rfl rfl (fun a S117 => ?_); clear S116
      refine S117.move (want_none rfl) rfl rfl rfl rfl (fun a S118 => ?_); clear S117
      refine S118.move (S118.sl.want rfl rfl rfl rfl rfl) rfl rfl rfl rfl (fun a S119 => ?_); clear S118
      refine S119.move (S119.sl.want rfl rfl rfl rfl rfl) rfl rfl rfl rfl (fun a S120 => ?_); clear S119
      refine S120.bin (S120.sl.want rfl rfl rfl rfl rfl) rfl rfl rfl rfl rfl (by first | exact neqF Try.underlying2 _ _ _ _ (by omega) | exact neqT Try.underlying2 _ _ _ _ (by omega) | exact neqI Try.underlying2 _ _ _ _) (fun a S121 => ?_); clear S120
      refine S121.pickF (want_none rfl) rfl rfl rfl rfl rfl (fun a S122 => ?_); clear S121
      refine S122.move (want_none rfl) rfl rfl rfl rfl (fun a S123 => ?_); clear S122
      refine S123.move (S123.sl.want rfl rfl rfl rfl rfl) rfl rfl rfl rfl (fun a S124 => ?_); clear S123
      refine S124.bin (S124.sl.want rfl rfl rfl rfl rfl) rfl rfl rfl rfl rfl (by first | exact neqF Try.underlying2 _ _ _ _ (by omega) | exact neqT Try.underlying2 _ _ _ _ (by omega) | exact neqI Try.underlying2 _ _ _ _) (fun a S125 => ?_); clear S124
      refine S125.pickF (want_none rfl) rfl rfl rfl rfl rfl (fun a S126 => ?_); clear S125
      refine S126.move (want_none rfl) rfl rfl rfl rfl (fun a S127 => ?_); clear S126
      refine S127.loadF (S127.sl.want rfl rfl rfl rfl rfl) rfl rfl rfl rfl row26 15 rfl (fun a S128 => ?_); clear S127
      refine S128.loadF (S128.sl.want rfl rfl rfl rfl rfl) rfl rfl rfl rfl row26 17 rfl (fun a S129 => ?_); clear S128
      refine S129.bin (S129.sl.want rfl rfl rfl rfl rfl) rfl rfl rfl rfl rfl (neqFrF _ _ (rfl)) (fun a S130 => ?_); clear S129
      refine S130.pickF (want_none rfl) rfl rfl rfl rfl rfl (fun a S131 => ?_); clear S130
      refine S131.move (want_none rfl) rfl rfl rfl rfl (fun a S132 => ?_); clear S131
      refine S132.move (S132.sl.want rfl rfl rfl rfl rfl) rfl rfl rfl rfl (fun a S133 => ?_); clear S132
      refine S133.bin (S133.sl.want rfl rfl rfl rfl rfl) rfl rfl rfl rfl rfl (by first | exact neqF Try.underlying2 _ _ _ _ (by omega) | exact neqT Try.underlying2 _ _ _ _ (by omega) | exact neqI Try.underlying2 _ _ _ _) (fun a S134 => ?_); clear S133
      refine S134.pickF (want_none rfl) rfl rfl rfl rfl rfl (fun a S135 => ?_); clear S134
      refine S135.move (want_none rfl) rfl rfl rfl rfl (fun a S136 => ?_); clear S135
      refine S136.loadF (S136.sl.want rfl rfl rfl rfl rfl) rfl rfl rfl rfl row26 19 rfl (fun a S137 => ?_); clear S136
      refine S137.loadF (S137.sl.want rfl rfl rfl rfl rfl) rfl rfl rfl rfl row26 5 rfl (fun a S138 => ?_); clear S137
      refine S138.bin (S138.sl.want rfl rfl rfl rfl rfl) rfl rfl rfl rfl rfl (neqFrF _ _ ((Fr.mirror2 hf))) (fun a S139 => ?_); clear S138
      refine S139.pickF (want_none rfl) rfl rfl rfl rfl rfl (fun a S140 => ?_); clear S139
      refine S140.move (want_none rfl) rfl rfl rfl rfl (fun a S141 => ?_); clear S140
      refine S141.move (S141.sl.want rfl rfl rfl rfl rfl) rfl rfl rfl rfl (fun a S142 => ?_); clear S141
      refine S142.move (S142.sl.want rfl rfl rfl rfl rfl) rfl rfl rfl rfl (fun a S143 => ?_); clear S142
      refine S143.bin (S143.sl.want rfl rfl rfl rfl rfl) rfl rfl rfl rfl rfl (by first | exact neqF Try.underlying2 _ _ _ _ (by omega) | exact neqT Try.underlying2 _ _ _ _ (by omega) | exact neqI Try.underlying2 _ _ _ _) (fun a S144 => ?_); clear S143
      refine S144.pickF (want_none rfl) rfl rfl rfl rfl rfl (fun a S145 => ?_); clear S144
      refine S145.move (want_none rfl) rfl rfl rfl rfl (fun a S146 => ?_); clear S145
      refine S146.move (S146.sl.want rfl rfl rfl rfl rfl) rfl rfl rfl rfl (fun a S147 => ?_); clear S146
      refine S147.bin (S147.sl.want rfl rfl rfl rfl rfl) rfl rfl rfl rfl rfl (by first | exact neqF Try.underlying2 _ _ _ _ (by omega) | exact neqT Try.underlying2 _ _ _ _ (by omega) | exact neqI Try.underlying2 _ _ _ _) (fun a S148 => ?_); clear S147
      refine S148.pickF (want_none rfl) rfl rfl rfl rfl rfl (fun a S149 => ?_); clear S148
      refine S149.move (want_none rfl) rfl rfl rfl rfl (fun a S150 => ?_); clear S149
      refine S150.loadF (S150.sl.want rfl rfl rfl rfl rfl) rfl rfl rfl rfl row26 21 rfl (fun a S151 => ?_); clear S150
      refine S151.loadF (S151.sl.want rfl rfl rfl rfl rfl) rfl rfl rfl rfl row26 23 rfl (fun a S152 => ?_); clear S151
      refine S152.bin (S152.sl.want rfl rfl rfl rfl rfl) rfl rfl rfl rfl rfl (neqFrF _ _ (rfl)) (fun a S153 => ?_); clear S152
      refine S153.pickF (want_none rfl) rfl rfl rfl rfl rfl (fun a S154 => ?_); clear S153
      refine S154.move (want_none rfl) rfl rfl rfl rfl (fun a S155 => ?_); clear S154
      refine S155.move (S155.sl.want rfl rfl rfl rfl rfl) rfl rfl rfl rfl (fun a S156 => ?_); clear S155
      refine S156.bin (S156.sl.want rfl rfl rfl rfl rfl) rfl rfl rfl rfl rfl (by first | exact neqF Try.underlying2 _ _ _ _ (by omega) | exact neqT Try.underlying2 _ _ _ _ (by omega) | exact neqI Try.underlying2 _ _ _ _) (fun a S157 => ?_); clear S156
      refine S157.pickF (want_none rfl) rfl rfl rfl rfl rfl (fun a S158 => ?_); clear S157
      refine S158.move (want_none rfl) rfl rfl rfl rfl (fun a S159 => ?_); clear S158
      refine S159.loadF (S159.sl.want rfl rfl rfl rfl rfl) rfl rfl rfl rfl row26 25 rfl (fun a S160 => ?_); clear S159
      refine S160.loadF (S160.sl.want rfl rfl rfl rfl rfl) rfl rfl rfl rfl row26 5 rfl (fun a S161 => ?_); clear S160
      refine S161.bin (S161.sl.want rfl rfl rfl rfl rfl) rfl rfl rfl rfl rfl (neqFrF _ _ ((Fr.flip2 f))) (fun a S162 => ?_); clear S161
      refine S162.pickF (want_none rfl) rfl rfl rfl rfl rfl (fun a S163 => ?_); clear S162
      refine S163.move (want_none rfl) rfl rfl rfl rfl (fun a S164 => ?_); clear S163
      refine S164.move (S164.sl.want rfl rfl rfl rfl rfl) rfl rfl rfl rfl (fun a S165 => ?_); clear S164
      refine S165.move (S165.sl.want rfl rfl rfl rfl rfl) rfl rfl rfl rfl (fun a S166 => ?_); clear S165
      refine S166.bin (S166.sl.want rfl rfl rfl rfl rfl) rfl rfl rfl rfl rfl (by first | exact neqF Try.underlying2 _ _ _ _ (by omega) | exact neqT Try.underlying2 _ _ _ _ (by omega) | exact neqI Try.underlying2 _ _ _ _) (fun a S167 => ?_); clear S166
      refine S167.pickF (want_none rfl) rfl rfl rfl rfl rfl (fun a S168 => ?_); clear S167
      refine S168.move (want_none rfl) rfl rfl rfl rfl (fun a S169 => ?_); clear S168
      refine S169.move (S169.sl.want rfl rfl rfl rfl rfl) rfl rfl rfl rfl (fun a S170 => ?_); clear S169
      refine S170.bin (S170.sl.want rfl rfl rfl rfl rfl) rfl rfl rfl rfl rfl (by first | exact neqF Try.underlying2 _ _ _ _ (by omega) | exact neqT Try.underlying2 _ _ _ _ (by omega) | exact neqI Try.underlying2 _ _ _ _) (fun a S171 => ?_); clear S170
      refine S171.pickF (want_none rfl) rfl rfl rfl rfl rfl (fun a S172 => ?_); clear S171
      refine S172.move (want_none rfl) rfl rfl rfl rfl (fun a S173 => ?_); clear S172
      refine S173.loadF (S173.sl.want rfl rfl rfl rfl rfl) rfl rfl rfl rfl row26 27 rfl (fun a S174 => ?_); clear S173
      refine S174.loadF (S174.sl.want rfl rfl rfl rfl rfl) rfl rfl rfl rfl row26 29 rfl (fun a S175 => ?_); clear S174
      refine S175.bin (S175.sl.want rfl rfl rfl rfl rfl) rfl rfl rfl rfl rfl (neqFrF _ _ (rfl)) (fun a S176 => ?_); clear S175
      refine S176.pickF (want_none rfl) rfl rfl rfl rfl rfl (fun a S177 => ?_); clear S176
      refine S177.move (want_none rfl) rfl rfl rfl rfl (fun a S178 => ?_); clear S177
      refine S178.move (S178.sl.want rfl rfl rfl rfl rfl) rfl rfl rfl rfl (fun a S179 => ?_); clear S178
      refine S179.bin (S179.sl.want rfl rfl rfl rfl rfl) rfl rfl rfl rfl rfl (by first | exact neqF Try.underlying2 _ _ _ _ (by omega) | exact neqT Try.underlying2 _ _ _ _ (by omega) | exact neqI Try.underlying2 _ _ _ _) (fun a S180 => ?_); clear S179
      refine S180.pickF (want_none rfl) rfl rfl rfl rfl rfl (fun a S181 => ?_); clear S180
      refine S181.move (want_none rfl) rfl rfl rfl rfl (fun a S182 => ?_); clear S181
      refine S182.loadF (S182.sl.want rfl rfl rfl rfl rfl) rfl rfl rfl rfl row26 31 rfl (fun a S183 => ?_); clear S182
      refine S183.loadF (S183.sl.want rfl rfl rfl rfl rfl) rfl rfl rfl rfl row26 5 rfl (fun a S184 => ?_); clear S183
      refine S184.bin (S184.sl.want rfl rfl rfl rfl rfl) rfl rfl rfl rfl rfl (neqFrF _ _ ((Fr.invert2 hf))) (fun a S185 => ?_); clear S184
      refine S185.pickF (want_none rfl) rfl rfl rfl rfl rfl (fun a S186 => ?_); clear S185
      refine wpList_n ?_
      refine then_n ?_
      refine S186.noB rfl (rfl) ?_
      refine wp_skip ?_
      refine then_n ?_
      refine wp_seq ?_
      refine wp_region_lit ?_
      refine S186.move (want_none rfl) rfl rfl rfl rfl (fun a S187 => ?_); clear S186
      refine S187.call (want_none rfl) rfl rfl rfl rfl Try.call21 (at_any _ 0 25 (by omega) (by omega) _ (H2.out.below S187.bag.below)) (fun e w hR => ?_)
      obtain ⟨r, rfl, hr1, hr2, rfl⟩ := hR
      refine ⟨_, rfl, fun a A => ?_⟩
      have S188 : St _ _ _ _ _ _ := ⟨A, S187.bag⟩; clear A S187
      refine S188.bin (want_none rfl) rfl rfl rfl rfl rfl (subI Try.underlying2 _ _ _ _ (IntWalk.i64_in _ (by omega))) (fun a S189 => ?_); clear S188
      refine S189.asg (want_none rfl) rfl rfl rfl rfl (fun a S190 => ?_); clear S189
      refine wpList_n ?_
      refine then_n ?_
      refine wp_seq ?_
      refine wp_region_lit ?_
      refine S190.move (want_none rfl) rfl rfl rfl rfl (fun a S191 => ?_); clear S190
      refine S191.call (want_none rfl) rfl rfl rfl rfl Try.call21 (at_any _ 1 25 (by omega) (by omega) _ (H2.out.below S191.bag.below)) (fun e w hR => ?_)
      obtain ⟨q, rfl, hq1, hq2, rfl⟩ := hR
      refine ⟨_, rfl, fun a A => ?_⟩
      have S192 : St _ _ _ _ _ _ := ⟨A, S191.bag⟩; clear A S191
      have hE : -12 ≤ r - 12 ∧ r - 12 ≤ 12 := by omega
      have hS : -12 ≤ q - 12 ∧ q - 12 ≤ 12 := by omega
      have hE2 : -12 ≤ -(r - 12) ∧ -(r - 12) ≤ 12 := by omega
      have hS2 : -12 ≤ -(q - 12) ∧ -(q - 12) ≤ 12 := by omega
      have hR := Fr.ok_roll f (r - 12) (q - 12)
      have hM := Fr.ok_mv f (r - 12) (q - 12)
      refine S192.bin (want_none rfl) rfl rfl rfl rfl rfl (subI Try.underlying2 _ _ _ _ (IntWalk.i64_in _ (by omega))) (fun a S193 => ?_); clear S192
      refine S193.asg (want_none rfl) rfl rfl rfl rfl (fun a S194 => ?_); clear S193
      refine wpList_n ?_
      refine then_n ?_
      refine wp_seq ?_
      refine wp_region_lit ?_
      refine S194.loadF (want_none rfl) rfl rfl rfl rfl row26 5 rfl (fun a S195 => ?_); clear S194
      refine S195.move (want_none rfl) rfl rfl rfl rfl (fun a S196 => ?_); clear S195
      refine S196.move (want_none rfl) rfl rfl rfl rfl (fun a S197 => ?_); clear S196
      refine S197.callB (want_none rfl) rfl rfl rfl rfl Try.call22 (roll_ok f (r - 12) (q - 12) _ hf hE hS) (fun a w hq2 S198 => ?_); clear S197 hq2
      refine S198.move (want_none rfl) rfl rfl rfl rfl (fun a S199 => ?_); clear S198
      refine S199.extract (want_none rfl) rfl rfl rfl rfl rfl (fun a S200 => ?_); clear S199
      refine S200.extract (want_none rfl) rfl rfl rfl rfl rfl (fun a S201 => ?_); clear S200
      refine S201.allocA (want_none rfl) rfl rfl rfl (Try.zeroValue26 _) cellsZ26 (fun b35 a w hq3 hq4 S202 => ?_); clear S201 hq3 hq4
      refine S202.storeF (want_none rfl) rfl rfl rfl rfl row26 35 rfl (fun a w S203 => ?_); clear S202
      refine S203.asg (want_none rfl) rfl rfl rfl rfl (fun a S204 => ?_); clear S203
      refine wpList_n ?_
      refine then_n ?_
      refine wp_seq ?_
      refine wp_region_lit ?_
      refine S204.loadF (want_none rfl) rfl rfl rfl rfl row26 5 rfl (fun a S205 => ?_); clear S204
      refine S205.move (want_none rfl) rfl rfl rfl rfl (fun a S206 => ?_); clear S205
      refine S206.move (want_none rfl) rfl rfl rfl rfl (fun a S207 => ?_); clear S206
      refine S207.callB (want_none rfl) rfl rfl rfl rfl Try.call23 (sRoll_ok f (r - 12) (q - 12) _ hf hE hS) (fun a w hq2 S208 => ?_); clear S207 hq2
      refine S208.move (want_none rfl) rfl rfl rfl rfl (fun a S209 => ?_); clear S208
      refine S209.extract (want_none rfl) rfl rfl rfl rfl rfl (fun a S210 => ?_); clear S209
      refine S210.extract (want_none rfl) rfl rfl rfl rfl rfl (fun a S211 => ?_); clear S210
      refine S211.allocA (want_none rfl) rfl rfl rfl (Try.zeroValue26 _) cellsZ26 (fun b37 a w hq3 hq4 S212 => ?_); clear S211 hq3 hq4
      refine S212.storeF (want_none rfl) rfl rfl rfl rfl row26 37 rfl (fun a w S213 => ?_); clear S212
      refine S213.asg (want_none rfl) rfl rfl rfl rfl (fun a S214 => ?_); clear S213
      refine wpList_n ?_
      refine then_n ?_
      refine wp_seq ?_
      refine wp_region_lit ?_
      refine S214.loadF (want_none rfl) rfl rfl rfl rfl row26 37 rfl (fun a S215 => ?_); clear S214
      refine S215.move (want_none rfl) rfl rfl rfl rfl (fun a S216 => ?_); clear S215
      refine S216.un (want_none rfl) rfl rfl rfl rfl (negI _ (IntWalk.i64_in _ (by omega))) (fun a S217 => ?_); clear S216
      refine S217.move (want_none rfl) rfl rfl rfl rfl (fun a S218 => ?_); clear S217
      refine S218.un (want_none rfl) rfl rfl rfl rfl (negI _ (IntWalk.i64_in _ (by omega))) (fun a S219 => ?_); clear S218
      refine S219.callB (want_none rfl) rfl rfl rfl rfl Try.call22 (roll_ok (f.roll (r - 12) (q - 12)) _ _ _ hR hE2 hS2) (fun a w hq2 S220 => ?_); clear S219 hq2
      refine S220.move (want_none rfl) rfl rfl rfl rfl (fun a S221 => ?_); clear S220
      refine S221.extract (want_none rfl) rfl rfl rfl rfl rfl (fun a S222 => ?_); clear S221
      refine S222.extract (want_none rfl) rfl rfl rfl rfl rfl (fun a S223 => ?_); clear S222
      refine S223.allocA (want_none rfl) rfl rfl rfl (Try.zeroValue26 _) cellsZ26 (fun b39 a w hq3 hq4 S224 => ?_); clear S223 hq3 hq4
      refine S224.storeF (want_none rfl) rfl rfl rfl rfl row26 39 rfl (fun a w S225 => ?_); clear S224
      refine S225.asg (want_none rfl) rfl rfl rfl rfl (fun a S226 => ?_); clear S225
      refine wpList_n ?_
      refine then_n ?_
      refine wp_seq ?_
      refine wp_region_lit ?_
      refine S226.loadF (want_none rfl) rfl rfl rfl rfl row26 5 rfl (fun a S227 => ?_); clear S226
      refine S227.move (want_none rfl) rfl rfl rfl rfl (fun a S228 => ?_); clear S227
      refine S228.move (want_none rfl) rfl rfl rfl rfl (fun a S229 => ?_); clear S228
      refine S229.callB (want_none rfl) rfl rfl rfl rfl Try.call24 (move_ok f (r - 12) (q - 12) _ hf hE hS) (fun a w hq2 S230 => ?_); clear S229 hq2
      refine S230.move (want_none rfl) rfl rfl rfl rfl (fun a S231 => ?_); clear S230
      refine S231.extract (want_none rfl) rfl rfl rfl rfl rfl (fun a S232 => ?_); clear S231
      refine S232.extract (want_none rfl) rfl rfl rfl rfl rfl (fun a S233 => ?_); clear S232
      refine S233.allocA (want_none rfl) rfl rfl rfl (Try.zeroValue26 _) cellsZ26 (fun b41 a w hq3 hq4 S234 => ?_); clear S233 hq3 hq4
      refine S234.storeF (want_none rfl) rfl rfl rfl rfl row26 41 rfl (fun a w S235 => ?_); clear S234
      refine S235.asg (want_none rfl) rfl rfl rfl rfl (fun a S236 => ?_); clear S235
      refine wpList_n ?_
      refine then_n ?_
      refine wp_seq ?_
      refine wp_region_lit ?_
      refine S236.loadF (want_none rfl) rfl rfl rfl rfl row26 5 rfl (fun a S237 => ?_); clear S236
      refine S237.move (want_none rfl) rfl rfl rfl rfl (fun a S238 => ?_); clear S237
      refine S238.move (want_none rfl) rfl rfl rfl rfl (fun a S239 => ?_); clear S238
      refine S239.callB (want_none rfl) rfl rfl rfl rfl Try.call25 (sMove_ok f (r - 12) (q - 12) _ hf hE hS) (fun a w hq2 S240 => ?_); clear S239 hq2
      refine S240.move (want_none rfl) rfl rfl rfl rfl (fun a S241 => ?_); clear S240
      refine S241.extract (want_none rfl) rfl rfl rfl rfl rfl (fun a S242 => ?_); clear S241
      refine S242.extract (want_none rfl) rfl rfl rfl rfl rfl (fun a S243 => ?_); clear S242
      refine S243.allocA (want_none rfl) rfl rfl rfl (Try.zeroValue26 _) cellsZ26 (fun b43 a w hq3 hq4 S244 => ?_); clear S243 hq3 hq4
      refine S244.storeF (want_none rfl) rfl rfl rfl rfl row26 43 rfl (fun a w S245 => ?_); clear S244
      refine S245.asg (want_none rfl) rfl rfl rfl rfl (fun a S246 => ?_); clear S245
      refine wpList_n ?_
      refine then_n ?_
      refine wp_seq ?_
      refine wp_region_lit ?_
      refine S246.loadF (want_none rfl) rfl rfl rfl rfl row26 5 rfl (fun a S247 => ?_); clear S246
      refine S247.callB (want_none rfl) rfl rfl rfl rfl Try.call26 (countDots_ok f _ hf) (fun a w hq2 S248 => ?_); clear S247 hq2
      refine S248.move (want_none rfl) rfl rfl rfl rfl (fun a S249 => ?_); clear S248
      refine S249.extract (want_none rfl) rfl rfl rfl rfl rfl (fun a S250 => ?_); clear S249
      refine S250.extract (want_none rfl) rfl rfl rfl rfl rfl (fun a S251 => ?_); clear S250
      refine S251.asg (want_none rfl) rfl rfl rfl rfl (fun a S252 => ?_); clear S251
      refine S252.asg (want_none rfl) rfl rfl rfl rfl (fun a S253 => ?_); clear S252
      refine wpList_n ?_
      refine then_n ?_
      refine wp_seq ?_
      refine wp_region_lit ?_
      refine S253.loadF (want_none rfl) rfl rfl rfl rfl row26 37 rfl (fun a S254 => ?_); clear S253
      refine S254.callB (want_none rfl) rfl rfl rfl rfl Try.call26 (countDots_ok (f.roll (r - 12) (q - 12)) _ hR) (fun a w hq2 S255 => ?_); clear S254 hq2
      refine S255.move (want_none rfl) rfl rfl rfl rfl (fun a S256 => ?_); clear S255
      refine S256.extract (want_none rfl) rfl rfl rfl rfl rfl (fun a S257 => ?_); clear S256
      refine S257.extract (want_none rfl) rfl rfl rfl rfl rfl (fun a S258 => ?_); clear S257
      refine S258.asg (want_none rfl) rfl rfl rfl rfl (fun a S259 => ?_); clear S258
      refine S259.asg (want_none rfl) rfl rfl rfl rfl (fun a S260 => ?_); clear S259
      refine wpList_n ?_
      refine then_n ?_
      refine wp_seq ?_
      refine wp_region_lit ?_
      refine S260.loadF (want_none rfl) rfl rfl rfl rfl row26 43 rfl (fun a S261 => ?_); clear S260
      refine S261.callB (want_none rfl) rfl rfl rfl rfl Try.call26 (countDots_ok (f.mv (r - 12) (q - 12)) _ hM) (fun a w hq2 S262 => ?_); clear S261 hq2
      refine S262.move (want_none rfl) rfl rfl rfl rfl (fun a S263 => ?_); clear S262
      refine S263.extract (want_none rfl) rfl rfl rfl rfl rfl (fun a S264 => ?_); clear S263
      refine S264.extract (want_none rfl) rfl rfl rfl rfl rfl (fun a S265 => ?_); clear S264
      refine S265.asg (want_none rfl) rfl rfl rfl rfl (fun a S266 => ?_); clear S265
      refine S266.asg (want_none rfl) rfl rfl rfl rfl (fun a S267 => ?_); clear S266
      refine wpList_n ?_
      refine then_n ?_
      refine wp_seq ?_
      refine wp_region_lit ?_
      refine S267.loadF (want_none rfl) rfl rfl rfl rfl row26 43 rfl (fun a S268 => ?_); clear S267
      refine S268.loadF (want_none rfl) rfl rfl rfl rfl row26 37 rfl (fun a S269 => ?_); clear S268
      refine S269.callB (want_none rfl) rfl rfl rfl rfl Try.call27 (less_ok (f.mv (r - 12) (q - 12)) (f.roll (r - 12) (q - 12)) _ hM hR) (fun a w hq2 S270 => ?_); clear S269 hq2
      have hc : (((f.mv (r - 12) (q - 12)).cnt : Nat) : Int) ≤ (f.cnt : Int) := Int.ofNat_le.2 (Fr.cnt_mv f (r - 12) (q - 12))
      have hc2 : (((f.roll (r - 12) (q - 12)).cnt : Nat) : Int) = (f.cnt : Int) := by rw [Fr.cnt_roll hf]
      refine S270.move (want_none rfl) rfl rfl rfl rfl (fun a S271 => ?_); clear S270
      refine S271.extract (want_none rfl) rfl rfl rfl rfl rfl (fun a S272 => ?_); clear S271
      refine S272.extract (want_none rfl) rfl rfl rfl rfl rfl (fun a S273 => ?_); clear S272
      refine S273.allocA (want_none rfl) rfl rfl rfl (Try.zeroValue26 _) cellsZ26 (fun b51 a w hq3 hq4 S274 => ?_); clear S273 hq3 hq4
      refine S274.storeF (want_none rfl) rfl rfl rfl rfl row26 51 rfl (fun a w S275 => ?_); clear S274
      refine S275.asg (want_none rfl) rfl rfl rfl rfl (fun a S276 => ?_); clear S275
      refine wpList_n ?_
      refine then_n ?_
      refine wp_seq ?_
      refine wp_seq ?_
      refine wp_region_lit ?_
      refine S276.move (want_none rfl) rfl rfl rfl rfl (fun a S277 => ?_); clear S276
      refine S277.move (want_none rfl) rfl rfl rfl rfl (fun a S278 => ?_); clear S277
      refine S278.bin (want_none rfl) rfl rfl rfl rfl rfl (by first | exact neqF Try.underlying2 _ _ _ _ (by omega) | exact neqT Try.underlying2 _ _ _ _ (by omega) | exact neqI Try.underlying2 _ _ _ _) (fun a S279 => ?_); clear S278
      refine S279.move (want_none rfl) rfl rfl rfl rfl (fun a S280 => ?_); clear S279
      refine S280.move (S280.sl.want rfl rfl rfl rfl rfl) rfl rfl rfl rfl (fun a S281 => ?_); clear S280
      refine S281.bin (S281.sl.want rfl rfl rfl rfl rfl) rfl rfl rfl rfl rfl (by first | exact neqF Try.underlying2 _ _ _ _ (by omega) | exact neqT Try.underlying2 _ _ _ _ (by omega) | exact neqI Try.underlying2 _ _ _ _) (fun a S282 => ?_); clear S281
      refine S282.pickF (want_none rfl) rfl rfl rfl rfl rfl (fun a S283 => ?_); clear S282
      refine S283.move (want_none rfl) rfl rfl rfl rfl (fun a S284 => ?_); clear S283
      refine S284.loadF (S284.sl.want rfl rfl rfl rfl rfl) rfl rfl rfl rfl row26 35 rfl (fun a S285 => ?_); clear S284
      refine S285.loadF (S285.sl.want rfl rfl rfl rfl rfl) rfl rfl rfl rfl row26 37 rfl (fun a S286 => ?_); clear S285
      refine S286.bin (S286.sl.want rfl rfl rfl rfl rfl) rfl rfl rfl rfl rfl (neqFrF _ _ (rfl)) (fun a S287 => ?_); clear S286
      refine S287.pickF (want_none rfl) rfl rfl rfl rfl rfl (fun a S288 => ?_); clear S287
      refine S288.move (want_none rfl) rfl rfl rfl rfl (fun a S289 => ?_); clear S288
      refine S289.move (S289.sl.want rfl rfl rfl rfl rfl) rfl rfl rfl rfl (fun a S290 => ?_); clear S289
      refine S290.bin (S290.sl.want rfl rfl rfl rfl rfl) rfl rfl rfl rfl rfl (by first | exact neqF Try.underlying2 _ _ _ _ (by omega) | exact neqT Try.underlying2 _ _ _ _ (by omega) | exact neqI Try.underlying2 _ _ _ _) (fun a S291 => ?_); clear S290
      refine S291.pickF (want_none rfl) rfl rfl rfl rfl rfl (fun a S292 => ?_); clear S291
      refine S292.move (want_none rfl) rfl rfl rfl rfl (fun a S293 => ?_); clear S292
      refine S293.loadF (S293.sl.want rfl rfl rfl rfl rfl) rfl rfl rfl rfl row26 39 rfl (fun a S294 => ?_); clear S293
      refine S294.loadF (S294.sl.want rfl rfl rfl rfl rfl) rfl rfl rfl rfl row26 5 rfl (fun a S295 => ?_); clear S294
      refine S295.bin (S295.sl.want rfl rfl rfl rfl rfl) rfl rfl rfl rfl rfl (neqFrF _ _ (Fr.roll2 hf _ _)) (fun a S296 => ?_); clear S295
      refine S296.pickF (want_none rfl) rfl rfl rfl rfl rfl (fun a S297 => ?_); clear S296
      refine S297.move (want_none rfl) rfl rfl rfl rfl (fun a S298 => ?_); clear S297
      refine S298.move (S298.sl.want rfl rfl rfl rfl rfl) rfl rfl rfl rfl (fun a S299 => ?_); clear S298
      refine S299.move (S299.sl.want rfl rfl rfl rfl rfl) rfl rfl rfl rfl (fun a S300 => ?_); clear S299
      refine S300.bin (S300.sl.want rfl rfl rfl rfl rfl) rfl rfl rfl rfl rfl (by first | exact neqF Try.underlying2 _ _ _ _ (by omega) | exact neqT Try.underlying2 _ _ _ _ (by omega) | exact neqI Try.underlying2 _ _ _ _) (fun a S301 => ?_); clear S300
      refine S301.pickF (want_none rfl) rfl rfl rfl rfl rfl (fun a S302 => ?_); clear S301
      refine S302.move (want_none rfl) rfl rfl rfl rfl (fun a S303 => ?_); clear S302
      refine S303.move (S303.sl.want rfl rfl rfl rfl rfl) rfl rfl rfl rfl (fun a S304 => ?_); clear S303
      refine S304.bin (S304.sl.want rfl rfl rfl rfl rfl) rfl rfl rfl rfl rfl (by first | exact neqF Try.underlying2 _ _ _ _ (by omega) | exact neqT Try.underlying2 _ _ _ _ (by omega) | exact neqI Try.underlying2 _ _ _ _) (fun a S305 => ?_); clear S304
      refine S305.pickF (want_none rfl) rfl rfl rfl rfl rfl (fun a S306 => ?_); clear S305
      refine S306.move (want_none rfl) rfl rfl rfl rfl (fun a S307 => ?_); clear S306
      refine S307.loadF (S307.sl.want rfl rfl rfl rfl rfl) rfl rfl rfl rfl row26 41 rfl (fun a S308 => ?_); clear S307
      refine S308.loadF (S308.sl.want rfl rfl rfl rfl rfl) rfl rfl rfl rfl row26 43 rfl (fun a S309 => ?_); clear S308
      refine S309.bin (S309.sl.want rfl rfl rfl rfl rfl) rfl rfl rfl rfl rfl (neqFrF _ _ (rfl)) (fun a S310 => ?_); clear S309
      refine S310.pickF (want_none rfl) rfl rfl rfl rfl rfl (fun a S311 => ?_); clear S310
      refine S311.move (want_none rfl) rfl rfl rfl rfl (fun a S312 => ?_); clear S311
      refine S312.move (S312.sl.want rfl rfl rfl rfl rfl) rfl rfl rfl rfl (fun a S313 => ?_); clear S312
      refine S313.bin (S313.sl.want rfl rfl rfl rfl rfl) rfl rfl rfl rfl rfl (by first | exact neqF Try.underlying2 _ _ _ _ (by omega) | exact neqT Try.underlying2 _ _ _ _ (by omega) | exact neqI Try.underlying2 _ _ _ _) (fun a S314 => ?_); clear S313
      refine S314.pickF (want_none rfl) rfl rfl rfl rfl rfl (fun a S315 => ?_); clear S314
      refine S315.move (want_none rfl) rfl rfl rfl rfl (fun a S316 => ?_); clear S315
      refine S316.move (S316.sl.want rfl rfl rfl rfl rfl) rfl rfl rfl rfl (fun a S317 => ?_); clear S316
      refine S317.bin (S317.sl.want rfl rfl rfl rfl rfl) rfl rfl rfl rfl rfl (by first | exact neqF Try.underlying2 _ _ _ _ (by omega) | exact neqT Try.underlying2 _ _ _ _ (by omega) | exact neqI Try.underlying2 _ _ _ _) (fun a S318 => ?_); clear S317
      refine S318.pickF (want_none rfl) rfl rfl rfl rfl rfl (fun a S319 => ?_); clear S318
      refine S319.move (want_none rfl) rfl rfl rfl rfl (fun a S320 => ?_); clear S319
      refine S320.move (S320.sl.want rfl rfl rfl rfl rfl) rfl rfl rfl rfl (fun a S321 => ?_); clear S320
      refine S321.move (S321.sl.want rfl rfl rfl rfl rfl) rfl rfl rfl rfl (fun a S322 => ?_); clear S321
      refine S322.bin (S322.sl.want rfl rfl rfl rfl rfl) rfl rfl rfl rfl rfl (by first | exact neqF Try.underlying2 _ _ _ _ (by omega) | exact neqT Try.underlying2 _ _ _ _ (by omega) | exact neqI Try.underlying2 _ _ _ _) (fun a S323 => ?_); clear S322
      refine S323.pickF (want_none rfl) rfl rfl rfl rfl rfl (fun a S324 => ?_); clear S323
      refine S324.move (want_none rfl) rfl rfl rfl rfl (fun a S325 => ?_); clear S324
      refine S325.move (S325.sl.want rfl rfl rfl rfl rfl) rfl rfl rfl rfl (fun a S326 => ?_); clear S325
      refine S326.bin (S326.sl.want rfl rfl rfl rfl rfl) rfl rfl rfl rfl rfl (by first | exact neqF Try.underlying2 _ _ _ _ (by omega) | exact neqT Try.underlying2 _ _ _ _ (by omega) | exact neqI Try.underlying2 _ _ _ _) (fun a S327 => ?_); clear S326
      refine S327.pickF (want_none rfl) rfl rfl rfl rfl rfl (fun a S328 => ?_); clear S327
      refine S328.move (want_none rfl) rfl rfl rfl rfl (fun a S329 => ?_); clear S328
      refine S329.move (S329.sl.want rfl rfl rfl rfl rfl) rfl rfl rfl rfl (fun a S330 => ?_); clear S329
      refine S330.move (S330.sl.want rfl rfl rfl rfl rfl) rfl rfl rfl rfl (fun a S331 => ?_); clear S330
      refine S331.bin (S331.sl.want rfl rfl rfl rfl rfl) rfl rfl rfl rfl rfl (by first | exact gtrF Try.underlying2 _ _ _ _ (by omega) | exact gtrT Try.underlying2 _ _ _ _ (by omega) | exact gtrI Try.underlying2 _ _ _ _) (fun a S332 => ?_); clear S331
      refine S332.pickF (want_none rfl) rfl rfl rfl rfl rfl (fun a S333 => ?_); clear S332
      refine S333.move (want_none rfl) rfl rfl rfl rfl (fun a S334 => ?_); clear S333
      refine S334.move (S334.sl.want rfl rfl rfl rfl rfl) rfl rfl rfl rfl (fun a S335 => ?_); clear S334
      refine S335.bin (S335.sl.want rfl rfl rfl rfl rfl) rfl rfl rfl rfl rfl (by first | exact neqF Try.underlying2 _ _ _ _ (by omega) | exact neqT Try.underlying2 _ _ _ _ (by omega) | exact neqI Try.underlying2 _ _ _ _) (fun a S336 => ?_); clear S335
      refine S336.pickF (want_none rfl) rfl rfl rfl rfl rfl (fun a S337 => ?_); clear S336
      refine S337.move (want_none rfl) rfl rfl rfl rfl (fun a S338 => ?_); clear S337
      refine S338.loadF (S338.sl.want rfl rfl rfl rfl rfl) rfl rfl rfl rfl row26 51 rfl (fun a S339 => ?_); clear S338
      refine S339.build (S339.sl.want rfl rfl rfl rfl rfl) rfl rfl rfl (by rw [Array.map_empty]; exact zeroFr _) (fun a S340 => ?_); clear S339
      refine S340.bin (S340.sl.want rfl rfl rfl rfl rfl) rfl rfl rfl rfl rfl (neqFrF _ _ (Fr.mv_sub_roll f _ _)) (fun a S341 => ?_); clear S340
      refine S341.pickF (want_none rfl) rfl rfl rfl rfl rfl (fun a S342 => ?_); clear S341
      refine wpList_n ?_
      refine then_n ?_
      refine S342.noB rfl (rfl) ?_
      refine wp_skip ?_
      refine then_n ?_
      refine wp_seq ?_
      refine wp_region_lit ?_
      refine S342.loadF (want_none rfl) rfl rfl rfl rfl row26 5 rfl (fun a S343 => ?_); clear S342
      refine S343.loadF (want_none rfl) rfl rfl rfl rfl row26 6 rfl (fun a S344 => ?_); clear S343
      refine S344.callB (want_none rfl) rfl rfl rfl rfl Try.call28 (join_ok f g _ hf hg) (fun a w hq2 S345 => ?_); clear S344 hq2
      refine S345.move (want_none rfl) rfl rfl rfl rfl (fun a S346 => ?_); clear S345
      refine S346.extract (want_none rfl) rfl rfl rfl rfl rfl (fun a S347 => ?_); clear S346
      refine S347.extract (want_none rfl) rfl rfl rfl rfl rfl (fun a S348 => ?_); clear S347
      refine S348.allocA (want_none rfl) rfl rfl rfl (Try.zeroValue26 _) cellsZ26 (fun b53 a w hq3 hq4 S349 => ?_); clear S348 hq3 hq4
      refine S349.storeF (want_none rfl) rfl rfl rfl rfl row26 53 rfl (fun a w S350 => ?_); clear S349
      refine S350.asg (want_none rfl) rfl rfl rfl rfl (fun a S351 => ?_); clear S350
      refine wpList_n ?_
      refine then_n ?_
      refine wp_seq ?_
      refine wp_region_lit ?_
      refine S351.loadF (want_none rfl) rfl rfl rfl rfl row26 5 rfl (fun a S352 => ?_); clear S351
      refine S352.loadF (want_none rfl) rfl rfl rfl rfl row26 6 rfl (fun a S353 => ?_); clear S352
      refine S353.callB (want_none rfl) rfl rfl rfl rfl Try.call29 (meet_ok f g _ hf hg) (fun a w hq2 S354 => ?_); clear S353 hq2
      refine S354.move (want_none rfl) rfl rfl rfl rfl (fun a S355 => ?_); clear S354
      refine S355.extract (want_none rfl) rfl rfl rfl rfl rfl (fun a S356 => ?_); clear S355
      refine S356.extract (want_none rfl) rfl rfl rfl rfl rfl (fun a S357 => ?_); clear S356
      refine S357.allocA (want_none rfl) rfl rfl rfl (Try.zeroValue26 _) cellsZ26 (fun b55 a w hq3 hq4 S358 => ?_); clear S357 hq3 hq4
      refine S358.storeF (want_none rfl) rfl rfl rfl rfl row26 55 rfl (fun a w S359 => ?_); clear S358
      refine S359.asg (want_none rfl) rfl rfl rfl rfl (fun a S360 => ?_); clear S359
      refine wpList_n ?_
      refine then_n ?_
      refine wp_seq ?_
      refine wp_region_lit ?_
      refine S360.loadF (want_none rfl) rfl rfl rfl rfl row26 5 rfl (fun a S361 => ?_); clear S360
      refine S361.loadF (want_none rfl) rfl rfl rfl rfl row26 6 rfl (fun a S362 => ?_); clear S361
      refine S362.callB (want_none rfl) rfl rfl rfl rfl Try.call27 (less_ok f g _ hf hg) (fun a w hq2 S363 => ?_); clear S362 hq2
      refine S363.move (want_none rfl) rfl rfl rfl rfl (fun a S364 => ?_); clear S363
      refine S364.extract (want_none rfl) rfl rfl rfl rfl rfl (fun a S365 => ?_); clear S364
      refine S365.extract (want_none rfl) rfl rfl rfl rfl rfl (fun a S366 => ?_); clear S365
      refine S366.allocA (want_none rfl) rfl rfl rfl (Try.zeroValue26 _) cellsZ26 (fun b57 a w hq3 hq4 S367 => ?_); clear S366 hq3 hq4
      refine S367.storeF (want_none rfl) rfl rfl rfl rfl row26 57 rfl (fun a w S368 => ?_); clear S367
      refine S368.asg (want_none rfl) rfl rfl rfl rfl (fun a S369 => ?_); clear S368
      refine wpList_n ?_
      refine then_n ?_
      refine wp_seq ?_
      refine wp_region_lit ?_
      refine S369.loadF (want_none rfl) rfl rfl rfl rfl row26 6 rfl (fun a S370 => ?_); clear S369
      refine S370.loadF (want_none rfl) rfl rfl rfl rfl row26 5 rfl (fun a S371 => ?_); clear S370
      refine S371.callB (want_none rfl) rfl rfl rfl rfl Try.call27 (less_ok g f _ hg hf) (fun a w hq2 S372 => ?_); clear S371 hq2
      refine S372.move (want_none rfl) rfl rfl rfl rfl (fun a S373 => ?_); clear S372
      refine S373.extract (want_none rfl) rfl rfl rfl rfl rfl (fun a S374 => ?_); clear S373
      refine S374.extract (want_none rfl) rfl rfl rfl rfl rfl (fun a S375 => ?_); clear S374
      refine S375.allocA (want_none rfl) rfl rfl rfl (Try.zeroValue26 _) cellsZ26 (fun b59 a w hq3 hq4 S376 => ?_); clear S375 hq3 hq4
      refine S376.storeF (want_none rfl) rfl rfl rfl rfl row26 59 rfl (fun a w S377 => ?_); clear S376
      refine S377.asg (want_none rfl) rfl rfl rfl rfl (fun a S378 => ?_); clear S377
      refine wpList_n ?_
      refine then_n ?_
      refine wp_seq ?_
      refine wp_region_lit ?_
      refine S378.loadF (want_none rfl) rfl rfl rfl rfl row26 5 rfl (fun a S379 => ?_); clear S378
      refine S379.loadF (want_none rfl) rfl rfl rfl rfl row26 6 rfl (fun a S380 => ?_); clear S379
      refine S380.callB (want_none rfl) rfl rfl rfl rfl Try.call30 (differBy_ok f g _ hf hg) (fun a w hq2 S381 => ?_); clear S380 hq2
      refine S381.move (want_none rfl) rfl rfl rfl rfl (fun a S382 => ?_); clear S381
      refine S382.extract (want_none rfl) rfl rfl rfl rfl rfl (fun a S383 => ?_); clear S382
      refine S383.extract (want_none rfl) rfl rfl rfl rfl rfl (fun a S384 => ?_); clear S383
      refine S384.asg (want_none rfl) rfl rfl rfl rfl (fun a S385 => ?_); clear S384
      refine S385.asg (want_none rfl) rfl rfl rfl rfl (fun a S386 => ?_); clear S385
      refine wpList_n ?_
      refine then_n ?_
      refine wp_seq ?_
      refine wp_region_lit ?_
      refine S386.loadF (want_none rfl) rfl rfl rfl rfl row26 6 rfl (fun a S387 => ?_); clear S386
      refine S387.loadF (want_none rfl) rfl rfl rfl rfl row26 5 rfl (fun a S388 => ?_); clear S387
      refine S388.callB (want_none rfl) rfl rfl rfl rfl Try.call30 (differBy_ok g f _ hg hf) (fun a w hq2 S389 => ?_); clear S388 hq2
      have hj : ((Fr.jump g f : Nat) : Int) = (Fr.jump f g : Int) := by rw [Fr.jump_comm]
      refine S389.move (want_none rfl) rfl rfl rfl rfl (fun a S390 => ?_); clear S389
      refine S390.extract (want_none rfl) rfl rfl rfl rfl rfl (fun a S391 => ?_); clear S390
      refine S391.extract (want_none rfl) rfl rfl rfl rfl rfl (fun a S392 => ?_); clear S391
      refine S392.asg (want_none rfl) rfl rfl rfl rfl (fun a S393 => ?_); clear S392
      refine S393.asg (want_none rfl) rfl rfl rfl rfl (fun a S394 => ?_); clear S393
      refine wpList_n ?_
      refine then_n ?_
      refine wp_seq ?_
      refine wp_seq ?_
      refine wp_region_lit ?_
      refine S394.move (want_none rfl) rfl rfl rfl rfl (fun a S395 => ?_); clear S394
      refine S395.bin (want_none rfl) rfl rfl rfl rfl rfl (by first | exact neqF Try.underlying2 _ _ _ _ (by omega) | exact neqT Try.underlying2 _ _ _ _ (by omega) | exact neqI Try.underlying2 _ _ _ _) (fun a S396 => ?_); clear S395
      refine S396.move (want_none rfl) rfl rfl rfl rfl (fun a S397 => ?_); clear S396
      refine S397.move (S397.sl.want rfl rfl rfl rfl rfl) rfl rfl rfl rfl (fun a S398 => ?_); clear S397
      refine S398.bin (S398.sl.want rfl rfl rfl rfl rfl) rfl rfl rfl rfl rfl (by first | exact neqF Try.underlying2 _ _ _ _ (by omega) | exact neqT Try.underlying2 _ _ _ _ (by omega) | exact neqI Try.underlying2 _ _ _ _) (fun a S399 => ?_); clear S398
      refine S399.pickF (want_none rfl) rfl rfl rfl rfl rfl (fun a S400 => ?_); clear S399
      refine S400.move (want_none rfl) rfl rfl rfl rfl (fun a S401 => ?_); clear S400
      refine S401.move (S401.sl.want rfl rfl rfl rfl rfl) rfl rfl rfl rfl (fun a S402 => ?_); clear S401
      refine S402.bin (S402.sl.want rfl rfl rfl rfl rfl) rfl rfl rfl rfl rfl (by first | exact neqF Try.underlying2 _ _ _ _ (by omega) | exact neqT Try.underlying2 _ _ _ _ (by omega) | exact neqI Try.underlying2 _ _ _ _) (fun a S403 => ?_); clear S402
      refine S403.pickF (want_none rfl) rfl rfl rfl rfl rfl (fun a S404 => ?_); clear S403
      refine S404.move (want_none rfl) rfl rfl rfl rfl (fun a S405 => ?_); clear S404
      refine S405.move (S405.sl.want rfl rfl rfl rfl rfl) rfl rfl rfl rfl (fun a S406 => ?_); clear S405
      refine S406.bin (S406.sl.want rfl rfl rfl rfl rfl) rfl rfl rfl rfl rfl (by first | exact neqF Try.underlying2 _ _ _ _ (by omega) | exact neqT Try.underlying2 _ _ _ _ (by omega) | exact neqI Try.underlying2 _ _ _ _) (fun a S407 => ?_); clear S406
      refine S407.pickF (want_none rfl) rfl rfl rfl rfl rfl (fun a S408 => ?_); clear S407
      refine S408.move (want_none rfl) rfl rfl rfl rfl (fun a S409 => ?_); clear S408
      refine S409.move (S409.sl.want rfl rfl rfl rfl rfl) rfl rfl rfl rfl (fun a S410 => ?_); clear S409
      refine S410.bin (S410.sl.want rfl rfl rfl rfl rfl) rfl rfl rfl rfl rfl (by first | exact neqF Try.underlying2 _ _ _ _ (by omega) | exact neqT Try.underlying2 _ _ _ _ (by omega) | exact neqI Try.underlying2 _ _ _ _) (fun a S411 => ?_); clear S410
      refine S411.pickF (want_none rfl) rfl rfl rfl rfl rfl (fun a S412 => ?_); clear S411
      refine S412.move (want_none rfl) rfl rfl rfl rfl (fun a S413 => ?_); clear S412
      refine S413.move (S413.sl.want rfl rfl rfl rfl rfl) rfl rfl rfl rfl (fun a S414 => ?_); clear S413
      refine S414.bin (S414.sl.want rfl rfl rfl rfl rfl) rfl rfl rfl rfl rfl (by first | exact neqF Try.underlying2 _ _ _ _ (by omega) | exact neqT Try.underlying2 _ _ _ _ (by omega) | exact neqI Try.underlying2 _ _ _ _) (fun a S415 => ?_); clear S414
      refine S415.pickF (want_none rfl) rfl rfl rfl rfl rfl (fun a S416 => ?_); clear S415
      refine S416.move (want_none rfl) rfl rfl rfl rfl (fun a S417 => ?_); clear S416
      refine S417.move (S417.sl.want rfl rfl rfl rfl rfl) rfl rfl rfl rfl (fun a S418 => ?_); clear S417
      refine S418.move (S418.sl.want rfl rfl rfl rfl rfl) rfl rfl rfl rfl (fun a S419 => ?_); clear S418
      refine S419.bin (S419.sl.want rfl rfl rfl rfl rfl) rfl rfl rfl rfl rfl (by first | exact neqF Try.underlying2 _ _ _ _ (by omega) | exact neqT Try.underlying2 _ _ _ _ (by omega) | exact neqI Try.underlying2 _ _ _ _) (fun a S420 => ?_); clear S419
      refine S420.pickF (want_none rfl) rfl rfl rfl rfl rfl (fun a S421 => ?_); clear S420
      refine S421.move (want_none rfl) rfl rfl rfl rfl (fun a S422 => ?_); clear S421
      refine S422.move (S422.sl.want rfl rfl rfl rfl rfl) rfl rfl rfl rfl (fun a S423 => ?_); clear S422
      refine S423.bin (S423.sl.want rfl rfl rfl rfl rfl) rfl rfl rfl rfl rfl (by first | exact eqlF Try.underlying2 _ _ _ _ (by omega) | exact eqlT Try.underlying2 _ _ _ _ (by omega) | exact eqlI Try.underlying2 _ _ _ _) (fun a S424 => ?_); clear S423
      refine S424.loadF (S424.sl.want rfl rfl rfl rfl rfl) rfl rfl rfl rfl row26 5 rfl (fun a S425 => ?_); clear S424
      refine S425.loadF (S425.sl.want rfl rfl rfl rfl rfl) rfl rfl rfl rfl row26 6 rfl (fun a S426 => ?_); clear S425
      refine S426.bin (S426.sl.want rfl rfl rfl rfl rfl) rfl rfl rfl rfl rfl (by first | exact eqlFrT _ _ rfl | exact eqlFr _ _ _ _) (fun a S427 => ?_); clear S426
      refine S427.bin (S427.sl.want rfl rfl rfl rfl rfl) rfl rfl rfl rfl rfl (neqB Try.underlying4 _ _ _ _) (fun a S428 => ?_); clear S427
      refine S428.pickF (want_none rfl) rfl rfl rfl rfl rfl (fun a S429 => ?_); clear S428
      refine wpList_n ?_
      refine then_n ?_
      refine S429.noB rfl ((jump_eq hf hg)) ?_
      refine wp_skip ?_
      refine then_n ?_
      refine wp_seq ?_
      refine wp_region_lit ?_
      refine S429.asg (want_none rfl) rfl rfl rfl rfl (fun a S430 => ?_); clear S429
      refine wpList_n ?_
      refine then_n ?_
      refine wp_seq ?_
      refine wp_seq ?_
      refine wp_region_lit ?_
      refine S430.asg (want_none rfl) rfl rfl rfl rfl (fun a S431 => ?_); clear S430
      refine wpList_n ?_
      refine then_n ?_
      refine wp_block ?_
      refine wp_loopN (fun m a w => ∃ k : Nat, k ≤ 12 ∧ m = 12 - k ∧ St w0 597 [(5, .pointer (some ⟨b5, 0, none⟩)), (6, .pointer (some ⟨b6, 0, none⟩)), (53, .pointer (some ⟨b53, 0, none⟩)), (55, .pointer (some ⟨b55, 0, none⟩)), (57, .pointer (some ⟨b57, 0, none⟩)), (59, .pointer (some ⟨b59, 0, none⟩)), (45, .int .i64 (f.cnt : Nat)), (61, .int .i64 (Fr.jump f g : Nat)), (65, .int .i64 (Fr.diffTo f g k 0 : Nat)), (66, .int .i64 (k : Nat))] [(5, blk b5 (frC f) 26), (6, blk b6 (frC g) 26), (53, blk b53 (frC (f.join g)) 26), (55, blk b55 (frC (f.meet g)) 26), (57, blk b57 (frC (f.less g)) 26), (59, blk b59 (frC (g.less f)) 26)] a w) (12) (⟨0, by omega, rfl, S431.to ⟨rfl, rfl, rfl, rfl, rfl, rfl, rfl, rfl, rfl, rfl, trivial⟩ ⟨rfl, rfl, rfl, rfl, rfl, rfl, trivial⟩⟩) (fun m a w hI => ?_)
      obtain ⟨k, hk, rfl, S432⟩ := hI
      refine wp_seq ?_
      refine wp_seq ?_
      refine wp_region_lit ?_
      refine S432.move (want_none rfl) rfl rfl rfl rfl (fun a S433 => ?_); clear S432
      refine S433.bin (want_none rfl) rfl rfl rfl rfl rfl (lssI Try.underlying3 _ _ _ _) (fun a S434 => ?_); clear S433
      refine wpList_n ?_
      refine then_n ?_
      refine S434.either rfl (fun hlt => ?_) (fun hlt => ?_)
      · skip
        refine wp_skip ?_
        refine then_n ?_
        refine wp_seq ?_
        refine wp_block ?_
        refine wp_seq ?_
        refine wp_seq ?_
        refine S434.quiet (by kernel_rfl) (by kernel_rfl) (fun a S435 => ?_)
        clear S434
        have hlt : k < 12 := by have := of_decide_eq_true hlt; omega
        refine S435.qmove (want_none rfl) rfl rfl rfl rfl (fun a S436 => ?_); clear S435
        refine S436.qindexA (want_none rfl) rfl rfl rfl rfl rfl (fun w hC => idxFr _ _ hlt) (fun a S437 => ?_); clear S436
        refine S437.qload (want_none rfl) rfl rfl rfl rfl (fun w hC => hC.load1 one24 53 rfl (frC_at _ hlt)) (fun a S438 => ?_); clear S437
        refine S438.qmove (want_none rfl) rfl rfl rfl rfl (fun a S439 => ?_); clear S438
        refine S439.qindexA (want_none rfl) rfl rfl rfl rfl rfl (fun w hC => idxFr _ _ hlt) (fun a S440 => ?_); clear S439
        refine S440.qload (want_none rfl) rfl rfl rfl rfl (fun w hC => hC.load1 one24 5 rfl (frC_at _ hlt)) (fun a S441 => ?_); clear S440
        refine S441.qmove (want_none rfl) rfl rfl rfl rfl (fun a S442 => ?_); clear S441
        refine S442.qindexA (want_none rfl) rfl rfl rfl rfl rfl (fun w hC => idxFr _ _ hlt) (fun a S443 => ?_); clear S442
        refine S443.qload (want_none rfl) rfl rfl rfl rfl (fun w hC => hC.load1 one24 6 rfl (frC_at _ hlt)) (fun a S444 => ?_); clear S443
        refine S444.qbin (want_none rfl) rfl rfl rfl rfl rfl (fun w hC => orR _ _ _ _) (fun a S445 => ?_); clear S444
        refine S445.qbin (want_none rfl) rfl rfl rfl rfl rfl (fun w hC => neqF Try.underlying24 _ _ _ _ ((congrArg rowI (Fr.row_map2 _ f g hlt)))) (fun a S446 => ?_); clear S445
        refine S446.qmove (want_none rfl) rfl rfl rfl rfl (fun a S447 => ?_); clear S446
        refine S447.qmove (S447.want rfl rfl rfl rfl rfl) rfl rfl rfl rfl (fun a S448 => ?_); clear S447
        refine S448.qindexA (S448.want rfl rfl rfl rfl rfl) rfl rfl rfl rfl rfl (fun w hC => idxFr _ _ hlt) (fun a S449 => ?_); clear S448
        refine S449.qload (S449.want rfl rfl rfl rfl rfl) rfl rfl rfl rfl (fun w hC => hC.load1 one24 55 rfl (frC_at _ hlt)) (fun a S450 => ?_); clear S449
        refine S450.qmove (S450.want rfl rfl rfl rfl rfl) rfl rfl rfl rfl (fun a S451 => ?_); clear S450
        refine S451.qindexA (S451.want rfl rfl rfl rfl rfl) rfl rfl rfl rfl rfl (fun w hC => idxFr _ _ hlt) (fun a S452 => ?_); clear S451
        refine S452.qload (S452.want rfl rfl rfl rfl rfl) rfl rfl rfl rfl (fun w hC => hC.load1 one24 5 rfl (frC_at _ hlt)) (fun a S453 => ?_); clear S452
        refine S453.qmove (S453.want rfl rfl rfl rfl rfl) rfl rfl rfl rfl (fun a S454 => ?_); clear S453
        refine S454.qindexA (S454.want rfl rfl rfl rfl rfl) rfl rfl rfl rfl rfl (fun w hC => idxFr _ _ hlt) (fun a S455 => ?_); clear S454
        refine S455.qload (S455.want rfl rfl rfl rfl rfl) rfl rfl rfl rfl (fun w hC => hC.load1 one24 6 rfl (frC_at _ hlt)) (fun a S456 => ?_); clear S455
        refine S456.qbin (S456.want rfl rfl rfl rfl rfl) rfl rfl rfl rfl rfl (fun w hC => andR _ _ _ _) (fun a S457 => ?_); clear S456
        refine S457.qbin (S457.want rfl rfl rfl rfl rfl) rfl rfl rfl rfl rfl (fun w hC => neqF Try.underlying24 _ _ _ _ ((congrArg rowI (Fr.row_map2 _ f g hlt)))) (fun a S458 => ?_); clear S457
        refine S458.qpickF (want_none rfl) rfl rfl rfl rfl rfl (fun a S459 => ?_); clear S458
        refine S459.qmove (want_none rfl) rfl rfl rfl rfl (fun a S460 => ?_); clear S459
        refine S460.qmove (S460.want rfl rfl rfl rfl rfl) rfl rfl rfl rfl (fun a S461 => ?_); clear S460
        refine S461.qindexA (S461.want rfl rfl rfl rfl rfl) rfl rfl rfl rfl rfl (fun w hC => idxFr _ _ hlt) (fun a S462 => ?_); clear S461
        refine S462.qload (S462.want rfl rfl rfl rfl rfl) rfl rfl rfl rfl (fun w hC => hC.load1 one24 57 rfl (frC_at _ hlt)) (fun a S463 => ?_); clear S462
        refine S463.qmove (S463.want rfl rfl rfl rfl rfl) rfl rfl rfl rfl (fun a S464 => ?_); clear S463
        refine S464.qindexA (S464.want rfl rfl rfl rfl rfl) rfl rfl rfl rfl rfl (fun w hC => idxFr _ _ hlt) (fun a S465 => ?_); clear S464
        refine S465.qload (S465.want rfl rfl rfl rfl rfl) rfl rfl rfl rfl (fun w hC => hC.load1 one24 5 rfl (frC_at _ hlt)) (fun a S466 => ?_); clear S465
        refine S466.qmove (S466.want rfl rfl rfl rfl rfl) rfl rfl rfl rfl (fun a S467 => ?_); clear S466
        refine S467.qindexA (S467.want rfl rfl rfl rfl rfl) rfl rfl rfl rfl rfl (fun w hC => idxFr _ _ hlt) (fun a S468 => ?_); clear S467
        refine S468.qload (S468.want rfl rfl rfl rfl rfl) rfl rfl rfl rfl (fun w hC => hC.load1 one24 6 rfl (frC_at _ hlt)) (fun a S469 => ?_); clear S468
        refine S469.qbin (S469.want rfl rfl rfl rfl rfl) rfl rfl rfl rfl rfl (fun w hC => andNotR _ _ _ _) (fun a S470 => ?_); clear S469
        refine S470.qbin (S470.want rfl rfl rfl rfl rfl) rfl rfl rfl rfl rfl (fun w hC => neqF Try.underlying24 _ _ _ _ ((congrArg rowI (Fr.row_map2 _ f g hlt)))) (fun a S471 => ?_); clear S470
        refine S471.qpickF (want_none rfl) rfl rfl rfl rfl rfl (fun a S472 => ?_); clear S471
        refine S472.qmove (want_none rfl) rfl rfl rfl rfl (fun a S473 => ?_); clear S472
        refine S473.qmove (S473.want rfl rfl rfl rfl rfl) rfl rfl rfl rfl (fun a S474 => ?_); clear S473
        refine S474.qindexA (S474.want rfl rfl rfl rfl rfl) rfl rfl rfl rfl rfl (fun w hC => idxFr _ _ hlt) (fun a S475 => ?_); clear S474
        refine S475.qload (S475.want rfl rfl rfl rfl rfl) rfl rfl rfl rfl (fun w hC => hC.load1 one24 59 rfl (frC_at _ hlt)) (fun a S476 => ?_); clear S475
        refine S476.qmove (S476.want rfl rfl rfl rfl rfl) rfl rfl rfl rfl (fun a S477 => ?_); clear S476
        refine S477.qindexA (S477.want rfl rfl rfl rfl rfl) rfl rfl rfl rfl rfl (fun w hC => idxFr _ _ hlt) (fun a S478 => ?_); clear S477
        refine S478.qload (S478.want rfl rfl rfl rfl rfl) rfl rfl rfl rfl (fun w hC => hC.load1 one24 6 rfl (frC_at _ hlt)) (fun a S479 => ?_); clear S478
        refine S479.qmove (S479.want rfl rfl rfl rfl rfl) rfl rfl rfl rfl (fun a S480 => ?_); clear S479
        refine S480.qindexA (S480.want rfl rfl rfl rfl rfl) rfl rfl rfl rfl rfl (fun w hC => idxFr _ _ hlt) (fun a S481 => ?_); clear S480
        refine S481.qload (S481.want rfl rfl rfl rfl rfl) rfl rfl rfl rfl (fun w hC => hC.load1 one24 5 rfl (frC_at _ hlt)) (fun a S482 => ?_); clear S481
        refine S482.qbin (S482.want rfl rfl rfl rfl rfl) rfl rfl rfl rfl rfl (fun w hC => andNotR _ _ _ _) (fun a S483 => ?_); clear S482
        refine S483.qbin (S483.want rfl rfl rfl rfl rfl) rfl rfl rfl rfl rfl (fun w hC => neqF Try.underlying24 _ _ _ _ ((congrArg rowI (Fr.row_map2 _ g f hlt)))) (fun a S484 => ?_); clear S483
        refine S484.qpickF (want_none rfl) rfl rfl rfl rfl rfl (fun a S485 => ?_); clear S484
        refine S485.qend (fun S486 w hB => ?_)
        have S487 : St _ _ _ _ _ _ := ⟨S486, hB⟩
        clear S486
        refine then_n ?_
        refine S487.noB rfl (rfl) ?_
        refine wp_skip ?_
        refine then_n ?_
        refine wp_seq ?_
        refine wp_region_lit ?_
        refine S487.asg (want_none rfl) rfl rfl rfl rfl (fun a S488 => ?_); clear S487
        refine wpList_n ?_
        refine then_n ?_
        refine wp_block ?_
        refine wp_loopN (fun m a w => ∃ j : Nat, j ≤ 12 ∧ m = 12 - j ∧ St w0 597 [(5, .pointer (some ⟨b5, 0, none⟩)), (6, .pointer (some ⟨b6, 0, none⟩)), (53, .pointer (some ⟨b53, 0, none⟩)), (55, .pointer (some ⟨b55, 0, none⟩)), (57, .pointer (some ⟨b57, 0, none⟩)), (59, .pointer (some ⟨b59, 0, none⟩)), (45, .int .i64 (f.cnt : Nat)), (61, .int .i64 (Fr.jump f g : Nat)), (65, .int .i64 (Fr.diffTo f g k j : Nat)), (66, .int .i64 (k : Nat)), (67, .int .i64 (j : Nat))] [(5, blk b5 (frC f) 26), (6, blk b6 (frC g) 26), (53, blk b53 (frC (f.join g)) 26), (55, blk b55 (frC (f.meet g)) 26), (57, blk b57 (frC (f.less g)) 26), (59, blk b59 (frC (g.less f)) 26)] a w) (12) (⟨0, by omega, rfl, S488.to ⟨rfl, rfl, rfl, rfl, rfl, rfl, rfl, rfl, rfl, rfl, rfl, trivial⟩ ⟨rfl, rfl, rfl, rfl, rfl, rfl, trivial⟩⟩) (fun m a w hI => ?_)
        obtain ⟨j, hj, rfl, S489⟩ := hI
        refine wp_seq ?_
        refine wp_seq ?_
        refine wp_region_lit ?_
        refine S489.move (want_none rfl) rfl rfl rfl rfl (fun a S490 => ?_); clear S489
        refine S490.bin (want_none rfl) rfl rfl rfl rfl rfl (lssI Try.underlying2 _ _ _ _) (fun a S491 => ?_); clear S490
        refine wpList_n ?_
        refine then_n ?_
        refine S491.either rfl (fun hlj => ?_) (fun hlj => ?_)
        · skip
          refine wp_skip ?_
          refine then_n ?_
          refine wp_seq ?_
          refine wp_block ?_
          refine wp_seq ?_
          refine wp_region_lit ?_
          have hlj : j < 12 := by have := of_decide_eq_true hlj; omega
          have hd := Fr.diffTo_le f g k j
          refine S491.loadF (want_none rfl) rfl rfl rfl rfl row26 5 rfl (fun a S492 => ?_); clear S491
          refine S492.move (want_none rfl) rfl rfl rfl rfl (fun a S493 => ?_); clear S492
          refine S493.move (want_none rfl) rfl rfl rfl rfl (fun a S494 => ?_); clear S493
          refine S494.callB (want_none rfl) rfl rfl rfl rfl Try.call31 (hasDot_ok f j k _ hf (isP_in hlj hlt)) (fun a w hq2 S495 => ?_); clear S494 hq2
          refine S495.move (want_none rfl) rfl rfl rfl rfl (fun a S496 => ?_); clear S495
          refine S496.extract (want_none rfl) rfl rfl rfl rfl rfl (fun a S497 => ?_); clear S496
          refine S497.extract (want_none rfl) rfl rfl rfl rfl rfl (fun a S498 => ?_); clear S497
          refine S498.asg (want_none rfl) rfl rfl rfl rfl (fun a S499 => ?_); clear S498
          refine S499.asg (want_none rfl) rfl rfl rfl rfl (fun a S500 => ?_); clear S499
          refine wpList_n ?_
          refine then_n ?_
          refine wp_seq ?_
          refine wp_region_lit ?_
          refine S500.loadF (want_none rfl) rfl rfl rfl rfl row26 6 rfl (fun a S501 => ?_); clear S500
          refine S501.move (want_none rfl) rfl rfl rfl rfl (fun a S502 => ?_); clear S501
          refine S502.move (want_none rfl) rfl rfl rfl rfl (fun a S503 => ?_); clear S502
          refine S503.callB (want_none rfl) rfl rfl rfl rfl Try.call31 (hasDot_ok g j k _ hg (isP_in hlj hlt)) (fun a w hq2 S504 => ?_); clear S503 hq2
          refine S504.move (want_none rfl) rfl rfl rfl rfl (fun a S505 => ?_); clear S504
          refine S505.extract (want_none rfl) rfl rfl rfl rfl rfl (fun a S506 => ?_); clear S505
          refine S506.extract (want_none rfl) rfl rfl rfl rfl rfl (fun a S507 => ?_); clear S506
          refine S507.asg (want_none rfl) rfl rfl rfl rfl (fun a S508 => ?_); clear S507
          refine S508.asg (want_none rfl) rfl rfl rfl rfl (fun a S509 => ?_); clear S508
          refine wpList_n ?_
          refine then_n ?_
          refine wp_seq ?_
          refine wp_seq ?_
          refine wp_region_lit ?_
          refine S509.move (want_none rfl) rfl rfl rfl rfl (fun a S510 => ?_); clear S509
          refine S510.bin (want_none rfl) rfl rfl rfl rfl rfl (by first | exact neqF Try.underlying2 _ _ _ _ (by omega) | exact neqT Try.underlying2 _ _ _ _ (by omega) | exact neqI Try.underlying2 _ _ _ _) (fun a S511 => ?_); clear S510
          refine S511.move (want_none rfl) rfl rfl rfl rfl (fun a S512 => ?_); clear S511
          refine S512.move (S512.sl.want rfl rfl rfl rfl rfl) rfl rfl rfl rfl (fun a S513 => ?_); clear S512
          refine S513.bin (S513.sl.want rfl rfl rfl rfl rfl) rfl rfl rfl rfl rfl (by first | exact neqF Try.underlying2 _ _ _ _ (by omega) | exact neqT Try.underlying2 _ _ _ _ (by omega) | exact neqI Try.underlying2 _ _ _ _) (fun a S514 => ?_); clear S513
          refine S514.pickF (want_none rfl) rfl rfl rfl rfl rfl (fun a S515 => ?_); clear S514
          refine S515.move (want_none rfl) rfl rfl rfl rfl (fun a S516 => ?_); clear S515
          refine S516.move (S516.sl.want rfl rfl rfl rfl rfl) rfl rfl rfl rfl (fun a S517 => ?_); clear S516
          refine S517.move (S517.sl.want rfl rfl rfl rfl rfl) rfl rfl rfl rfl (fun a S518 => ?_); clear S517
          refine S518.indexA (S518.sl.want rfl rfl rfl rfl rfl) rfl rfl rfl rfl rfl (idxFr _ _ hlt) (fun a S519 => ?_); clear S518
          refine S519.load1 (S519.sl.want rfl rfl rfl rfl rfl) rfl rfl rfl rfl one24 5 rfl (frC_at _ hlt) (fun a S520 => ?_); clear S519
          refine S520.move (S520.sl.want rfl rfl rfl rfl rfl) rfl rfl rfl rfl (fun a S521 => ?_); clear S520
          refine S521.conv (S521.sl.want rfl rfl rfl rfl rfl) rfl rfl rfl rfl (convI Try.underlying2 Try.underlying41 _ (IntWalk.u64_in _ (by omega))) (fun a S522 => ?_); clear S521
          refine S522.bin (S522.sl.want rfl rfl rfl rfl rfl) rfl rfl rfl rfl rfl (shrR _ _ _ _ _) (fun a S523 => ?_); clear S522
          refine S523.bin (S523.sl.want rfl rfl rfl rfl rfl) rfl rfl rfl rfl rfl (and1R _ _ _) (fun a S524 => ?_); clear S523
          refine S524.bin (S524.sl.want rfl rfl rfl rfl rfl) rfl rfl rfl rfl rfl (bitR _ _ _ _) (fun a S525 => ?_); clear S524
          refine S525.bin (S525.sl.want rfl rfl rfl rfl rfl) rfl rfl rfl rfl rfl (neqB Try.underlying4 _ _ _ _) (fun a S526 => ?_); clear S525
          refine S526.pickF (want_none rfl) rfl rfl rfl rfl rfl (fun a S527 => ?_); clear S526
          refine wpList_n ?_
          refine then_n ?_
          refine S527.noB rfl ((by rw [has_row hlj hlt]; simp)) ?_
          refine wp_skip ?_
          refine then_n ?_
          refine wp_seq ?_
          refine wp_region_lit ?_
          refine S527.move (want_none rfl) rfl rfl rfl rfl (fun a S528 => ?_); clear S527
          refine S528.move (want_none rfl) rfl rfl rfl rfl (fun a S529 => ?_); clear S528
          refine S529.bin (want_none rfl) rfl rfl rfl rfl rfl (neqB Try.underlying4 _ _ _ _) (fun a S530 => ?_); clear S529
          refine wpList_n ?_
          refine then_n ?_
          refine S530.either rfl (fun hne => ?_) (fun hne => ?_)
          · skip
            refine wp_region_lit ?_
            refine S530.move (want_none rfl) rfl rfl rfl rfl (fun a S531 => ?_); clear S530
            refine S531.bin (want_none rfl) rfl rfl rfl rfl rfl (addI Try.underlying2 _ _ _ _ (IntWalk.i64_in _ (by omega))) (fun a S532 => ?_); clear S531
            refine S532.asg (want_none rfl) rfl rfl rfl rfl (fun a S533 => ?_); clear S532
            refine wpList_n ?_
            refine blk_n ?_
            refine then_n ?_
            refine wp_region_lit ?_
            refine S533.move (want_none rfl) rfl rfl rfl rfl (fun a S534 => ?_); clear S533
            refine S534.bin (want_none rfl) rfl rfl rfl rfl rfl (addI Try.underlying2 _ _ _ _ (IntWalk.i64_in _ (by omega))) (fun a S535 => ?_); clear S534
            refine S535.asg (want_none rfl) rfl rfl rfl rfl (fun a S536 => ?_); clear S535
            refine wpList_n ?_
            refine then_n ?_
            exact ⟨12 - (j + 1), by omega, j + 1, by omega, rfl, S536.to ⟨rfl, rfl, rfl, rfl, rfl, rfl, rfl, rfl, by rw [diff_yes hlj hlt hne]; rfl, rfl, rfl, trivial⟩ ⟨rfl, rfl, rfl, rfl, rfl, rfl, trivial⟩⟩
          · skip
            refine wp_skip ?_
            refine blk_n ?_
            refine then_n ?_
            refine wp_region_lit ?_
            refine S530.move (want_none rfl) rfl rfl rfl rfl (fun a S531 => ?_); clear S530
            refine S531.bin (want_none rfl) rfl rfl rfl rfl rfl (addI Try.underlying2 _ _ _ _ (IntWalk.i64_in _ (by omega))) (fun a S532 => ?_); clear S531
            refine S532.asg (want_none rfl) rfl rfl rfl rfl (fun a S533 => ?_); clear S532
            refine wpList_n ?_
            refine then_n ?_
            exact ⟨12 - (j + 1), by omega, j + 1, by omega, rfl, S533.to ⟨rfl, rfl, rfl, rfl, rfl, rfl, rfl, rfl, by rw [diff_no hlj hlt hne]; rfl, rfl, rfl, trivial⟩ ⟨rfl, rfl, rfl, rfl, rfl, rfl, trivial⟩⟩
        · skip
          refine wp_exit ?_
          refine then_e ?_
          refine then_e ?_
          refine blk_e ?_
          refine blk_n ?_
          refine then_n ?_
          refine wp_region_lit ?_
          obtain rfl : j = 12 := by have := of_decide_eq_false hlj; omega
          rw [Fr.diffTo_row] at S491
          refine S491.move (want_none rfl) rfl rfl rfl rfl (fun a S492 => ?_); clear S491
          refine S492.bin (want_none rfl) rfl rfl rfl rfl rfl (addI Try.underlying3 _ _ _ _ (IntWalk.i64_in _ (by omega))) (fun a S493 => ?_); clear S492
          refine S493.asg (want_none rfl) rfl rfl rfl rfl (fun a S494 => ?_); clear S493
          refine wpList_n ?_
          refine then_n ?_
          exact ⟨12 - (k + 1), by omega, k + 1, by omega, rfl, S494.to ⟨rfl, rfl, rfl, rfl, rfl, rfl, rfl, rfl, rfl, rfl, trivial⟩ ⟨rfl, rfl, rfl, rfl, rfl, rfl, trivial⟩⟩
      · skip
        refine wp_exit ?_
        refine then_e ?_
        refine then_e ?_
        refine blk_e ?_
        refine then_n ?_
        refine wp_seq ?_
        refine wp_region_lit ?_
        obtain rfl : k = 12 := by have := of_decide_eq_false hlt; omega
        rw [Fr.diffTo_all] at S434
        refine S434.loadF (want_none rfl) rfl rfl rfl rfl row26 5 rfl (fun a S435 => ?_); clear S434
        refine S435.call (want_none rfl) rfl rfl rfl rfl Try.call32 (dotsOf_ok f _ hf) (fun e w hR => ?_)
        obtain ⟨v, rfl, hv, hb⟩ := hR
        refine ⟨_, rfl, fun a A => ?_⟩
        have S436 : St _ _ _ _ _ _ := ⟨A, S435.bag.callRow 72 hb hv⟩; clear A S435
        refine S436.move (want_none rfl) rfl rfl rfl rfl (fun a S437 => ?_); clear S436
        refine S437.extract (want_none rfl) rfl rfl rfl rfl rfl (fun a S438 => ?_); clear S437
        refine S438.extract (want_none rfl) rfl rfl rfl rfl rfl (fun a S439 => ?_); clear S438
        refine S439.asg (want_none rfl) rfl rfl rfl rfl (fun a S440 => ?_); clear S439
        refine S440.asg (want_none rfl) rfl rfl rfl rfl (fun a S441 => ?_); clear S440
        refine wpList_n ?_
        refine then_n ?_
        refine wp_seq ?_
        refine wp_region_lit ?_
        refine S441.loadF (want_none rfl) rfl rfl rfl rfl row26 5 rfl (fun a S442 => ?_); clear S441
        refine S442.call (want_none rfl) rfl rfl rfl rfl Try.call33 (sDotsOf_ok f _ hf) (fun e w hR => ?_)
        obtain ⟨u, rfl, hu, hb⟩ := hR
        refine ⟨_, rfl, fun a A => ?_⟩
        have S443 : St _ _ _ _ _ _ := ⟨A, S442.bag.callRow 74 hb hu⟩; clear A S442
        obtain ⟨Av, cv, rfl⟩ := (S443.bag.own? 72 rfl).slice
        obtain ⟨Au, cu, rfl⟩ := (S443.bag.own? 74 rfl).slice
        refine S443.move (want_none rfl) rfl rfl rfl rfl (fun a S444 => ?_); clear S443
        refine S444.extract (want_none rfl) rfl rfl rfl rfl rfl (fun a S445 => ?_); clear S444
        refine S445.extract (want_none rfl) rfl rfl rfl rfl rfl (fun a S446 => ?_); clear S445
        refine S446.asg (want_none rfl) rfl rfl rfl rfl (fun a S447 => ?_); clear S446
        refine S447.asg (want_none rfl) rfl rfl rfl rfl (fun a S448 => ?_); clear S447
        refine wpList_n ?_
        refine then_n ?_
        refine wp_seq ?_
        refine wp_region_lit ?_
        refine S448.bslice0 (want_none rfl) rfl rfl rfl bsDot dotE 2 (fun v557 a w S449 => ?_)
        clear S448
        refine S449.move (want_none rfl) rfl rfl rfl rfl (fun a S450 => ?_); clear S449
        refine S450.append (want_none rfl) rfl rfl rfl rfl rfl Try.underlying42 infoDot rfl (by decide) (by decide) dotE_len dotE_one 557 rfl S450.bag.below.size ((S450.bag.own? 74 rfl).reads dotE_len) (by have := dots_len f; simp; omega) (fun v559 a w _ S451 => ?_)
        clear S450
        refine S451.move (want_none rfl) rfl rfl rfl rfl (fun a S452 => ?_); clear S451
        refine S452.append (want_none rfl) rfl rfl rfl rfl rfl Try.underlying42 infoDot rfl (by decide) (by decide) dotE_len dotE_one 557 rfl S452.bag.below.size ((S452.bag.own? 74 rfl).reads dotE_len) (by have := dots_len f; simp; omega) (fun v561 a w _ S453 => ?_)
        clear S452
        refine S453.callB (want_none rfl) rfl rfl rfl rfl Try.call34 (frameFrom_ok (([] ++ f.dots) ++ f.dots) _ _ ((S453.bag.own? 557 rfl).reads dotE_len) dots_in_of) (fun a w hq2 S454 => ?_); clear S453 hq2
        refine S454.move (want_none rfl) rfl rfl rfl rfl (fun a S455 => ?_); clear S454
        refine S455.extract (want_none rfl) rfl rfl rfl rfl rfl (fun a S456 => ?_); clear S455
        refine S456.extract (want_none rfl) rfl rfl rfl rfl rfl (fun a S457 => ?_); clear S456
        refine S457.allocA (want_none rfl) rfl rfl rfl (Try.zeroValue26 _) cellsZ26 (fun b76 a w hq3 hq4 S458 => ?_); clear S457 hq3 hq4
        refine S458.storeF (want_none rfl) rfl rfl rfl rfl row26 76 rfl (fun a w S459 => ?_); clear S458
        refine S459.asg (want_none rfl) rfl rfl rfl rfl (fun a S460 => ?_); clear S459
        refine wpList_n ?_
        refine then_n ?_
        refine wp_seq ?_
        refine wp_region_lit ?_
        refine S460.move (want_none rfl) rfl rfl rfl rfl (fun a S461 => ?_); clear S460
        refine S461.move (want_none rfl) rfl rfl rfl rfl (fun a S462 => ?_); clear S461
        refine S462.bin (want_none rfl) rfl rfl rfl rfl rfl (by first | exact eqlF Try.underlying2 _ _ _ _ (by omega) | exact eqlT Try.underlying2 _ _ _ _ (by omega) | exact eqlI Try.underlying2 _ _ _ _) (fun a S463 => ?_); clear S462
        refine S463.move (want_none rfl) rfl rfl rfl rfl (fun a S464 => ?_); clear S463
        refine S464.move (S464.sl.want rfl rfl rfl rfl rfl) rfl rfl rfl rfl (fun a S465 => ?_); clear S464
        refine S465.move (S465.sl.want rfl rfl rfl rfl rfl) rfl rfl rfl rfl (fun a S466 => ?_); clear S465
        refine S466.bin (S466.sl.want rfl rfl rfl rfl rfl) rfl rfl rfl rfl rfl (by first | exact eqlF Try.underlying2 _ _ _ _ (by omega) | exact eqlT Try.underlying2 _ _ _ _ (by omega) | exact eqlI Try.underlying2 _ _ _ _) (fun a S467 => ?_); clear S466
        refine S467.pickT (want_none rfl) rfl rfl rfl rfl rfl (fun a S468 => ?_); clear S467
        refine S468.move (want_none rfl) rfl rfl rfl rfl (fun a S469 => ?_); clear S468
        refine S469.move (S469.sl.want rfl rfl rfl rfl rfl) rfl rfl rfl rfl (fun a S470 => ?_); clear S469
        refine S470.bin (S470.sl.want rfl rfl rfl rfl rfl) rfl rfl rfl rfl rfl (by first | exact eqlF Try.underlying2 _ _ _ _ (by omega) | exact eqlT Try.underlying2 _ _ _ _ (by omega) | exact eqlI Try.underlying2 _ _ _ _) (fun a S471 => ?_); clear S470
        refine S471.pickT (want_none rfl) rfl rfl rfl rfl rfl (fun a S472 => ?_); clear S471
        refine S472.move (want_none rfl) rfl rfl rfl rfl (fun a S473 => ?_); clear S472
        refine S473.move (S473.sl.want rfl rfl rfl rfl rfl) rfl rfl rfl rfl (fun a S474 => ?_); clear S473
        refine S474.move (S474.sl.want rfl rfl rfl rfl rfl) rfl rfl rfl rfl (fun a S475 => ?_); clear S474
        refine S475.callB (S475.sl.want rfl rfl rfl rfl rfl) rfl rfl rfl rfl Try.call35 (sameDots_ok f.dots _ _ _ ((S475.bag.own? 72 rfl).reads dotE_len) ((S475.bag.own? 74 rfl).reads dotE_len)) (fun a w hq2 S476 => ?_); clear S475 hq2
        have hcd : ((f.dots.length : Nat) : Int) = (f.cnt : Int) := rfl
        refine S476.pickT (want_none rfl) rfl rfl rfl rfl rfl (fun a S477 => ?_); clear S476
        refine S477.move (want_none rfl) rfl rfl rfl rfl (fun a S478 => ?_); clear S477
        refine S478.move (S478.sl.want rfl rfl rfl rfl rfl) rfl rfl rfl rfl (fun a S479 => ?_); clear S478
        refine S479.builtin (S479.sl.want rfl rfl rfl rfl rfl) rfl rfl rfl rfl (lenS Try.underlying42 _ _ _ _ _) (fun a S480 => ?_); clear S479
        refine S480.move (S480.sl.want rfl rfl rfl rfl rfl) rfl rfl rfl rfl (fun a S481 => ?_); clear S480
        refine S481.bin (S481.sl.want rfl rfl rfl rfl rfl) rfl rfl rfl rfl rfl (by first | exact eqlF Try.underlying2 _ _ _ _ (by omega) | exact eqlT Try.underlying2 _ _ _ _ (by omega) | exact eqlI Try.underlying2 _ _ _ _) (fun a S482 => ?_); clear S481
        refine S482.pickT (want_none rfl) rfl rfl rfl rfl rfl (fun a S483 => ?_); clear S482
        refine S483.move (want_none rfl) rfl rfl rfl rfl (fun a S484 => ?_); clear S483
        refine S484.move (S484.sl.want rfl rfl rfl rfl rfl) rfl rfl rfl rfl (fun a S485 => ?_); clear S484
        refine S485.bin (S485.sl.want rfl rfl rfl rfl rfl) rfl rfl rfl rfl rfl (by first | exact eqlF Try.underlying2 _ _ _ _ (by omega) | exact eqlT Try.underlying2 _ _ _ _ (by omega) | exact eqlI Try.underlying2 _ _ _ _) (fun a S486 => ?_); clear S485
        refine S486.pickT (want_none rfl) rfl rfl rfl rfl rfl (fun a S487 => ?_); clear S486
        refine S487.move (want_none rfl) rfl rfl rfl rfl (fun a S488 => ?_); clear S487
        refine S488.loadF (S488.sl.want rfl rfl rfl rfl rfl) rfl rfl rfl rfl row26 76 rfl (fun a S489 => ?_); clear S488
        refine S489.loadF (S489.sl.want rfl rfl rfl rfl rfl) rfl rfl rfl rfl row26 5 rfl (fun a S490 => ?_); clear S489
        refine S490.bin (S490.sl.want rfl rfl rfl rfl rfl) rfl rfl rfl rfl rfl (eqlFrT _ _ ((Fr.foldl_put_dots2 hf))) (fun a S491 => ?_); clear S490
        refine S491.pickT (want_none rfl) rfl rfl rfl rfl rfl (fun a S492 => ?_); clear S491
        refine S492.asg (want_none rfl) rfl rfl rfl rfl (fun a S493 => ?_); clear S492
        refine wpList_n ?_
        refine then_n ?_
        refine wp_ret ?_
        exact S493.ret1 rfl rfl ⟨rfl, S493.bag.below⟩
end Go.Proofs.Ythhimlicaiifdaa
