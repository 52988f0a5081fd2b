/- What a box cuts out. -/
import Derived.Test.YthhimlicaiifdaaZ12
set_option maxRecDepth 100000
set_option linter.unusedSimpArgs false
set_option linter.unusedVariables false
namespace Go.Proofs.Ythhimlicaiifdaa
open Go.RowKit Fb

theorem blk1 {w : World} {b : Nat} {v : Value} {t : TypeId} (h : Blk w b #[v] t) : w.cell? ⟨b, 0, none⟩ = some v := by rw [h.cell]; rfl
def inBox (f : Fr) (x e y s : Int) (u v : Int) : Bool := f.has u v && inR u x e && inR v y s
set_option maxHeartbeats 1000000 in
theorem cut1_any (f : Fr) (x e y s : Int) (bf bx be byy bs : Nat) (t tx te ty ts : TypeId) (w : World) (hF : Blk w bf (frC f) t) (hX : Blk w bx #[.int .i64 x] tx) (hE : Blk w be #[.int .i64 e] te) (hY : Blk w byy #[.int .i64 y] ty) (hS : Blk w bs #[.int .i64 s] ts) :
    IsAt 144 #[.pointer (some ⟨bf, 0, none⟩), .pointer (some ⟨bx, 0, none⟩), .pointer (some ⟨be, 0, none⟩), .pointer (some ⟨byy, 0, none⟩), .pointer (some ⟨bs, 0, none⟩)] (inBox f x e y s) w := by
  refine ⟨enters_of Try.func144 (by kernel_rfl) rfl, fun w0 u v hb hu hv => ?_⟩
  replace hF := hF.below hb
  replace hX := hX.below hb
  replace hE := hE.below hb
  replace hY := hY.below hb
  replace hS := hS.below hb
  have hFA : FrAt w0 bf 0 f := FrAt.of_blk hF
  unfold inBox
  show Calls _ _ #[.int .i64 (u : Int), .int .i64 (v : Int), .pointer (some ⟨bf, 0, none⟩), .pointer (some ⟨bx, 0, none⟩), .pointer (some ⟨be, 0, none⟩), .pointer (some ⟨byy, 0, none⟩), .pointer (some ⟨bs, 0, none⟩)] _ _
  refine St.enter Try.func144 rfl (show _ = 26 from rfl) rfl (L := [(0, _), (1, _), (2, _), (3, _), (4, _), (5, _), (6, _)]) rfl (fun a S0 => ?_)
  refine wp_seq ?_
  cases hq : f.has (u : Int) (v : Int)
  · skip
    refine wp_region_lit ?_
    refine S0.asg (want_none rfl) rfl rfl rfl rfl (fun a S1 => ?_); clear S0
    refine wpList_n ?_
    refine then_n ?_
    refine wp_seq ?_
    refine wp_region_lit ?_
    refine S1.loadP (want_none rfl) rfl rfl rfl rfl row26 (hFA.below S1.bag.below).row? (fun a S2 => ?_); clear S1
    refine S2.move (want_none rfl) rfl rfl rfl rfl (fun a S3 => ?_); clear S2
    refine S3.move (want_none rfl) rfl rfl rfl rfl (fun a S4 => ?_); clear S3
    refine S4.callB (want_none rfl) rfl rfl rfl rfl Try.call108 (by have := has_any f u v; rw [hq] at this; exact this _) (fun a w hq2 S5 => ?_); clear S4 hq2
    refine S5.move (want_none rfl) rfl rfl rfl rfl (fun a S6 => ?_); clear S5
    refine S6.pass (S6.sl.unwant rfl rfl rfl rfl rfl (.inl rfl)) rfl rfl (fun a S7 => ?_); clear S6
    refine S7.pass (S7.sl.unwant rfl rfl rfl rfl rfl (.inl rfl)) rfl rfl (fun a S8 => ?_); clear S7
    refine S8.pass (S8.sl.unwant rfl rfl rfl rfl rfl (.inl rfl)) rfl rfl (fun a S9 => ?_); clear S8
    refine S9.pass (S9.sl.unwant rfl rfl rfl rfl rfl (.inl rfl)) rfl rfl (fun a S10 => ?_); clear S9
    refine S10.pickF (want_none rfl) rfl rfl rfl rfl rfl (fun a S11 => ?_); clear S10
    refine S11.move (want_none rfl) rfl rfl rfl rfl (fun a S12 => ?_); clear S11
    refine S12.pass (S12.sl.unwant rfl rfl rfl rfl rfl (.inl rfl)) rfl rfl (fun a S13 => ?_); clear S12
    refine S13.pass (S13.sl.unwant rfl rfl rfl rfl rfl (.inl rfl)) rfl rfl (fun a S14 => ?_); clear S13
    refine S14.pass (S14.sl.unwant rfl rfl rfl rfl rfl (.inl rfl)) rfl rfl (fun a S15 => ?_); clear S14
    refine S15.pass (S15.sl.unwant rfl rfl rfl rfl rfl (.inl rfl)) rfl rfl (fun a S16 => ?_); clear S15
    refine S16.pickF (want_none rfl) rfl rfl rfl rfl rfl (fun a S17 => ?_); clear S16
    refine S17.asg (want_none rfl) rfl rfl rfl rfl (fun a S18 => ?_); clear S17
    refine wpList_n ?_
    refine then_n ?_
    refine wp_ret ?_
    exact S18.ret1 rfl rfl ⟨rfl, S18.bag.below⟩
  · skip
    cases hr : inR (u : Int) x e
    · skip
      refine wp_region_lit ?_
      refine S0.asg (want_none rfl) rfl rfl rfl rfl (fun a S1 => ?_); clear S0
      refine wpList_n ?_
      refine then_n ?_
      refine wp_seq ?_
      refine wp_region_lit ?_
      refine S1.loadP (want_none rfl) rfl rfl rfl rfl row26 (hFA.below S1.bag.below).row? (fun a S2 => ?_); clear S1
      refine S2.move (want_none rfl) rfl rfl rfl rfl (fun a S3 => ?_); clear S2
      refine S3.move (want_none rfl) rfl rfl rfl rfl (fun a S4 => ?_); clear S3
      refine S4.callB (want_none rfl) rfl rfl rfl rfl Try.call108 (by have := has_any f u v; rw [hq] at this; exact this _) (fun a w hq2 S5 => ?_); clear S4 hq2
      refine S5.move (want_none rfl) rfl rfl rfl rfl (fun a S6 => ?_); clear S5
      refine S6.move (S6.sl.want rfl rfl rfl rfl rfl) rfl rfl rfl rfl (fun a S7 => ?_); clear S6
      refine S7.loadC (S7.sl.want rfl rfl rfl rfl rfl) rfl rfl rfl rfl one2 (blk1 (hX.below S7.bag.below)) (fun a S8 => ?_)
      clear S7
      refine S8.loadC (S8.sl.want rfl rfl rfl rfl rfl) rfl rfl rfl rfl one2 (blk1 (hE.below S8.bag.below)) (fun a S9 => ?_)
      clear S8
      refine S9.callQ (S9.sl.want rfl rfl rfl rfl rfl) rfl rfl rfl rfl Try.call145 (by have := inRange_any u x e; rw [hr] at this; exact this _) (fun a S10 => ?_); clear S9
      refine S10.pickT (want_none rfl) rfl rfl rfl rfl rfl (fun a S11 => ?_); clear S10
      refine S11.move (want_none rfl) rfl rfl rfl rfl (fun a S12 => ?_); clear S11
      refine S12.pass (S12.sl.unwant rfl rfl rfl rfl rfl (.inl rfl)) rfl rfl (fun a S13 => ?_); clear S12
      refine S13.pass (S13.sl.unwant rfl rfl rfl rfl rfl (.inl rfl)) rfl rfl (fun a S14 => ?_); clear S13
      refine S14.pass (S14.sl.unwant rfl rfl rfl rfl rfl (.inl rfl)) rfl rfl (fun a S15 => ?_); clear S14
      refine S15.pass (S15.sl.unwant rfl rfl rfl rfl rfl (.inl rfl)) rfl rfl (fun a S16 => ?_); clear S15
      refine S16.pickF (want_none rfl) rfl rfl rfl rfl rfl (fun a S17 => ?_); clear S16
      refine S17.asg (want_none rfl) rfl rfl rfl rfl (fun a S18 => ?_); clear S17
      refine wpList_n ?_
      refine then_n ?_
      refine wp_ret ?_
      exact S18.ret1 rfl rfl ⟨rfl, S18.bag.below⟩
    · skip
      refine wp_region_lit ?_
      refine S0.asg (want_none rfl) rfl rfl rfl rfl (fun a S1 => ?_); clear S0
      refine wpList_n ?_
      refine then_n ?_
      refine wp_seq ?_
      refine wp_region_lit ?_
      refine S1.loadP (want_none rfl) rfl rfl rfl rfl row26 (hFA.below S1.bag.below).row? (fun a S2 => ?_); clear S1
      refine S2.move (want_none rfl) rfl rfl rfl rfl (fun a S3 => ?_); clear S2
      refine S3.move (want_none rfl) rfl rfl rfl rfl (fun a S4 => ?_); clear S3
      refine S4.callB (want_none rfl) rfl rfl rfl rfl Try.call108 (by have := has_any f u v; rw [hq] at this; exact this _) (fun a w hq2 S5 => ?_); clear S4 hq2
      refine S5.move (want_none rfl) rfl rfl rfl rfl (fun a S6 => ?_); clear S5
      refine S6.move (S6.sl.want rfl rfl rfl rfl rfl) rfl rfl rfl rfl (fun a S7 => ?_); clear S6
      refine S7.loadC (S7.sl.want rfl rfl rfl rfl rfl) rfl rfl rfl rfl one2 (blk1 (hX.below S7.bag.below)) (fun a S8 => ?_)
      clear S7
      refine S8.loadC (S8.sl.want rfl rfl rfl rfl rfl) rfl rfl rfl rfl one2 (blk1 (hE.below S8.bag.below)) (fun a S9 => ?_)
      clear S8
      refine S9.callQ (S9.sl.want rfl rfl rfl rfl rfl) rfl rfl rfl rfl Try.call145 (by have := inRange_any u x e; rw [hr] at this; exact this _) (fun a S10 => ?_); clear S9
      refine S10.pickT (want_none rfl) rfl rfl rfl rfl rfl (fun a S11 => ?_); clear S10
      refine S11.move (want_none rfl) rfl rfl rfl rfl (fun a S12 => ?_); clear S11
      refine S12.move (S12.sl.want rfl rfl rfl rfl rfl) rfl rfl rfl rfl (fun a S13 => ?_); clear S12
      refine S13.loadC (S13.sl.want rfl rfl rfl rfl rfl) rfl rfl rfl rfl one2 (blk1 (hY.below S13.bag.below)) (fun a S14 => ?_)
      clear S13
      refine S14.loadC (S14.sl.want rfl rfl rfl rfl rfl) rfl rfl rfl rfl one2 (blk1 (hS.below S14.bag.below)) (fun a S15 => ?_)
      clear S14
      refine S15.callQ (S15.sl.want rfl rfl rfl rfl rfl) rfl rfl rfl rfl Try.call145 (inRange_any v y s _) (fun a S16 => ?_); clear S15
      refine S16.pickT (want_none rfl) rfl rfl rfl rfl rfl (fun a S17 => ?_); clear S16
      refine S17.asg (want_none rfl) rfl rfl rfl rfl (fun a S18 => ?_); clear S17
      refine wpList_n ?_
      refine then_n ?_
      refine wp_ret ?_
      exact S18.ret1 rfl rfl ⟨rfl, S18.bag.below⟩

theorem cut_inBox (f : Fr) (x y wd hg : Int) : Fr.ofHas (inBox f x (x + wd - 1) y (y + hg - 1)) = f.cut x y wd hg := rfl
set_option maxHeartbeats 2000000 in
theorem CutBox_ok (f : Fr) (x y wd hg : Int) (w0 : World) (hf : f.ok = true) (hx : 0 ≤ x) (hy : 0 ≤ y) (hw : 1 ≤ wd) (hh : 1 ≤ hg) (hxw : x + wd ≤ 12) (hyh : y + hg ≤ 12) : Calls Try.prog 48 #[frV f, .agg (boxA x y wd hg)] w0 (RetF2 (f.cut x y wd hg) 0 w0) := by
  refine St.enter Try.func48 rfl (show _ = 57 from rfl) rfl (L := [(0, _), (1, _)]) rfl (fun a S0 => ?_)
  refine wp_seq ?_
  refine wp_region_lit ?_
  refine S0.boxA (want_none rfl) rfl rfl rfl rfl (fun b2 a w hq3 hq4 S1 => ?_); clear S0 hq3 hq4
  refine S1.boxA (want_none rfl) rfl rfl rfl rfl (fun b3 a w hq3 hq4 S2 => ?_); clear S1 hq3 hq4
  refine S2.allocA (want_none rfl) rfl rfl rfl (Try.zeroValue26 _) cellsZ26 (fun b4 a w hq3 hq4 S3 => ?_); clear S2 hq3 hq4
  refine S3.asg (want_none rfl) rfl rfl rfl rfl (fun a S4 => ?_); clear S3
  refine wpList_n ?_
  refine then_n ?_
  refine wp_seq ?_
  refine S4.held (by kernel_rfl) (fun a w => ∃ b6 b7, St w0 57 [(2, .pointer (some ⟨b2, 0, none⟩)), (3, .pointer (some ⟨b3, 0, none⟩)), (4, .pointer (some ⟨b4, 0, none⟩)), (5, .int .i64 0), (6, .pointer (some ⟨b6, 0, none⟩)), (7, .pointer (some ⟨b7, 0, none⟩))] [(2, blk b2 (frC f) 26), (3, blk b3 (boxA x y wd hg) 54), (4, blk b4 (frC Fr.zero) 26), (6, blk b6 #[.int .i64 x] 2), (7, blk b7 #[.int .i64 y] 2)] a w) ?_ (fun a w S5 hB => ?_)
  rotate_left
  · have hK := hB
    refine S5.hfieldA 0 rfl (by kernel_rfl) (by kernel_rfl) (by kernel_rfl) hB (want_none rfl) rfl rfl rfl rfl (fun w hC => fld54_0 _ _ _) (fun a S6 => ?_); clear S5
    refine S6.hload 1 rfl (by kernel_rfl) (by kernel_rfl) (by kernel_rfl) hB (want_none rfl) rfl rfl rfl rfl (fun w hC => hC.load1 one50 3 rfl rfl) (fun a S7 => ?_); clear S6
    refine S7.hconv 2 rfl (by kernel_rfl) (by kernel_rfl) (by kernel_rfl) hB (want_none rfl) rfl rfl rfl rfl (fun w hC => convI Try.underlying50 Try.underlying2 _ (IntWalk.i64_in _ (by omega))) (fun a S8 => ?_); clear S7
    refine S8.hfieldA 3 rfl (by kernel_rfl) (by kernel_rfl) (by kernel_rfl) hB (want_none rfl) rfl rfl rfl rfl (fun w hC => fld54_1 _ _ _) (fun a S9 => ?_); clear S8
    refine S9.hload 4 rfl (by kernel_rfl) (by kernel_rfl) (by kernel_rfl) hB (want_none rfl) rfl rfl rfl rfl (fun w hC => hC.load1 one50 3 rfl rfl) (fun a S10 => ?_); clear S9
    refine S10.hconv 5 rfl (by kernel_rfl) (by kernel_rfl) (by kernel_rfl) hB (want_none rfl) rfl rfl rfl rfl (fun w hC => convI Try.underlying50 Try.underlying2 _ (IntWalk.i64_in _ (by omega))) (fun a S11 => ?_); clear S10
    refine Sl.hany [6, 7] (by kernel_rfl) (by simp) ⟨⟨_, rfl, ?_⟩, ⟨_, rfl, ?_⟩, trivial⟩
    · skip
      have S12 : St _ _ _ _ _ _ := ⟨S11, hK⟩
      clear S11
      refine S12.allocA (want_none rfl) rfl rfl rfl (Try.zeroValue2 _) rfl (fun b6 a w hq3 hq4 S13 => ?_); clear S12 hq3 hq4
      refine wpList_n ?_
      have hB := S13.bag.base [(6, _)] ⟨rfl, trivial⟩
      have hK := S13.bag
      have S14 := S13.sl
      clear S13
      refine nrm_mk ⟨hB, ?_⟩
      refine Sl.hany [7] (by kernel_rfl) (by simp) ⟨⟨_, rfl, ?_⟩, trivial⟩
      have S15 : St _ _ _ _ _ _ := ⟨S14, hK⟩
      clear S14
      refine S15.allocA (want_none rfl) rfl rfl rfl (Try.zeroValue2 _) rfl (fun b7 a w hq3 hq4 S16 => ?_); clear S15 hq3 hq4
      refine wpList_n ?_
      have hB := S16.bag.base [(7, _), (6, _)] ⟨rfl, rfl, trivial⟩
      have hK := S16.bag
      have S17 := S16.sl
      clear S16
      refine nrm_mk ⟨hB, ?_⟩
      refine Sl.hany [8] (by kernel_rfl) (by simp) ⟨⟨_, rfl, ?_⟩, trivial⟩
      have S18 : St _ _ _ _ _ _ := ⟨S17, hK⟩
      clear S17
      refine S18.store1 (want_none rfl) rfl rfl rfl rfl one2 6 rfl rfl rfl rfl rfl (fun a w S19 => ?_); clear S18
      refine wpList_n ?_
      have hB := S19.bag.base [(6, _), (7, _), (6, _)] ⟨rfl, rfl, rfl, trivial⟩
      have hK := S19.bag
      have S20 := S19.sl
      clear S19
      refine nrm_mk ⟨hB, ?_⟩
      refine Sl.hany [9] (by kernel_rfl) (by simp) ⟨⟨_, rfl, ?_⟩, trivial⟩
      have S21 : St _ _ _ _ _ _ := ⟨S20, hK⟩
      clear S20
      refine S21.store1 (want_none rfl) rfl rfl rfl rfl one2 7 rfl rfl rfl rfl rfl (fun a w S22 => ?_); clear S21
      refine wpList_n ?_
      have hB := S22.bag.base [(7, _), (6, _), (7, _), (6, _)] ⟨rfl, rfl, rfl, rfl, trivial⟩
      have hK := S22.bag
      have S23 := S22.sl
      clear S22
      refine nrm_mk ⟨hB, ?_⟩
      have S24 : St _ _ _ _ _ _ := ⟨S23, hK⟩
      exact hend (by kernel_rfl) (⟨_, _, S24.to ⟨rfl, rfl, rfl, rfl, rfl, rfl, trivial⟩ ⟨rfl, rfl, rfl, rfl, rfl, trivial⟩⟩)
    · skip
      have S12 : St _ _ _ _ _ _ := ⟨S11, hK⟩
      clear S11
      refine S12.allocA (want_none rfl) rfl rfl rfl (Try.zeroValue2 _) rfl (fun b7 a w hq3 hq4 S13 => ?_); clear S12 hq3 hq4
      refine wpList_n ?_
      have hB := S13.bag.base [(7, _)] ⟨rfl, trivial⟩
      have hK := S13.bag
      have S14 := S13.sl
      clear S13
      refine nrm_mk ⟨hB, ?_⟩
      refine Sl.hany [6] (by kernel_rfl) (by simp) ⟨⟨_, rfl, ?_⟩, trivial⟩
      have S15 : St _ _ _ _ _ _ := ⟨S14, hK⟩
      clear S14
      refine S15.allocA (want_none rfl) rfl rfl rfl (Try.zeroValue2 _) rfl (fun b6 a w hq3 hq4 S16 => ?_); clear S15 hq3 hq4
      refine wpList_n ?_
      have hB := S16.bag.base [(6, _), (7, _)] ⟨rfl, rfl, trivial⟩
      have hK := S16.bag
      have S17 := S16.sl
      clear S16
      refine nrm_mk ⟨hB, ?_⟩
      refine Sl.hany [8] (by kernel_rfl) (by simp) ⟨⟨_, rfl, ?_⟩, trivial⟩
      have S18 : St _ _ _ _ _ _ := ⟨S17, hK⟩
      clear S17
      refine S18.store1 (want_none rfl) rfl rfl rfl rfl one2 6 rfl rfl rfl rfl rfl (fun a w S19 => ?_); clear S18
      refine wpList_n ?_
      have hB := S19.bag.base [(6, _), (6, _), (7, _)] ⟨rfl, rfl, rfl, trivial⟩
      have hK := S19.bag
      have S20 := S19.sl
      clear S19
      refine nrm_mk ⟨hB, ?_⟩
      refine Sl.hany [9] (by kernel_rfl) (by simp) ⟨⟨_, rfl, ?_⟩, trivial⟩
      have S21 : St _ _ _ _ _ _ := ⟨S20, hK⟩
      clear S20
      refine S21.store1 (want_none rfl) rfl rfl rfl rfl one2 7 rfl rfl rfl rfl rfl (fun a w S22 => ?_); clear S21
      refine wpList_n ?_
      have hB := S22.bag.base [(7, _), (6, _), (6, _), (7, _)] ⟨rfl, rfl, rfl, rfl, trivial⟩
      have hK := S22.bag
      have S23 := S22.sl
      clear S22
      refine nrm_mk ⟨hB, ?_⟩
      have S24 : St _ _ _ _ _ _ := ⟨S23, hK⟩
      exact hend (by kernel_rfl) (⟨_, _, S24.to ⟨rfl, rfl, rfl, rfl, rfl, rfl, trivial⟩ ⟨rfl, rfl, rfl, rfl, rfl, trivial⟩⟩)
  intro a w hP
  obtain ⟨b6, b7, S25⟩ := hP
  refine then_n ?_
  refine wp_seq ?_
  refine S25.held (by kernel_rfl) (fun a w => ∃ b8 b9, St w0 57 [(2, .pointer (some ⟨b2, 0, none⟩)), (3, .pointer (some ⟨b3, 0, none⟩)), (4, .pointer (some ⟨b4, 0, none⟩)), (5, .int .i64 0), (6, .pointer (some ⟨b6, 0, none⟩)), (7, .pointer (some ⟨b7, 0, none⟩)), (8, .pointer (some ⟨b8, 0, none⟩)), (9, .pointer (some ⟨b9, 0, none⟩))] [(2, blk b2 (frC f) 26), (3, blk b3 (boxA x y wd hg) 54), (4, blk b4 (frC Fr.zero) 26), (6, blk b6 #[.int .i64 x] 2), (7, blk b7 #[.int .i64 y] 2), (8, blk b8 #[.int .i64 (x + wd - 1)] 2), (9, blk b9 #[.int .i64 (y + hg - 1)] 2)] a w) ?_ (fun a w S26 hB => ?_)
  rotate_left
  · have hK := hB
    refine S26.hload 0 rfl (by kernel_rfl) (by kernel_rfl) (by kernel_rfl) hB (want_none rfl) rfl rfl rfl rfl (fun w hC => hC.load1 one2 6 rfl rfl) (fun a S27 => ?_); clear S26
    refine S27.hfieldA 1 rfl (by kernel_rfl) (by kernel_rfl) (by kernel_rfl) hB (want_none rfl) rfl rfl rfl rfl (fun w hC => fld54_2 _ _ _) (fun a S28 => ?_); clear S27
    refine S28.hload 2 rfl (by kernel_rfl) (by kernel_rfl) (by kernel_rfl) hB (want_none rfl) rfl rfl rfl rfl (fun w hC => hC.load1 one50 3 rfl rfl) (fun a S29 => ?_); clear S28
    refine S29.hconv 3 rfl (by kernel_rfl) (by kernel_rfl) (by kernel_rfl) hB (want_none rfl) rfl rfl rfl rfl (fun w hC => convI Try.underlying50 Try.underlying2 _ (IntWalk.i64_in _ (by omega))) (fun a S30 => ?_); clear S29
    refine S30.hbin 4 rfl (by kernel_rfl) (by kernel_rfl) (by kernel_rfl) hB (want_none rfl) rfl rfl rfl rfl rfl (fun w hC => addI Try.underlying2 _ _ _ _ (IntWalk.i64_in _ (by omega))) (fun a S31 => ?_); clear S30
    refine S31.hbin 5 rfl (by kernel_rfl) (by kernel_rfl) (by kernel_rfl) hB (want_none rfl) rfl rfl rfl rfl rfl (fun w hC => subI Try.underlying2 _ _ _ _ (IntWalk.i64_in _ (by omega))) (fun a S32 => ?_); clear S31
    refine S32.hload 6 rfl (by kernel_rfl) (by kernel_rfl) (by kernel_rfl) hB (want_none rfl) rfl rfl rfl rfl (fun w hC => hC.load1 one2 7 rfl rfl) (fun a S33 => ?_); clear S32
    refine S33.hfieldA 7 rfl (by kernel_rfl) (by kernel_rfl) (by kernel_rfl) hB (want_none rfl) rfl rfl rfl rfl (fun w hC => fld54_3 _ _ _) (fun a S34 => ?_); clear S33
    refine S34.hload 8 rfl (by kernel_rfl) (by kernel_rfl) (by kernel_rfl) hB (want_none rfl) rfl rfl rfl rfl (fun w hC => hC.load1 one50 3 rfl rfl) (fun a S35 => ?_); clear S34
    refine S35.hconv 9 rfl (by kernel_rfl) (by kernel_rfl) (by kernel_rfl) hB (want_none rfl) rfl rfl rfl rfl (fun w hC => convI Try.underlying50 Try.underlying2 _ (IntWalk.i64_in _ (by omega))) (fun a S36 => ?_); clear S35
    refine S36.hbin 10 rfl (by kernel_rfl) (by kernel_rfl) (by kernel_rfl) hB (want_none rfl) rfl rfl rfl rfl rfl (fun w hC => addI Try.underlying2 _ _ _ _ (IntWalk.i64_in _ (by omega))) (fun a S37 => ?_); clear S36
    refine S37.hbin 11 rfl (by kernel_rfl) (by kernel_rfl) (by kernel_rfl) hB (want_none rfl) rfl rfl rfl rfl rfl (fun w hC => subI Try.underlying2 _ _ _ _ (IntWalk.i64_in _ (by omega))) (fun a S38 => ?_); clear S37
    refine Sl.hany [12, 13] (by kernel_rfl) (by simp) ⟨⟨_, rfl, ?_⟩, ⟨_, rfl, ?_⟩, trivial⟩
    · skip
      have S39 : St _ _ _ _ _ _ := ⟨S38, hK⟩
      clear S38
      refine S39.allocA (want_none rfl) rfl rfl rfl (Try.zeroValue2 _) rfl (fun b8 a w hq3 hq4 S40 => ?_); clear S39 hq3 hq4
      refine wpList_n ?_
      have hB := S40.bag.base [(8, _)] ⟨rfl, trivial⟩
      have hK := S40.bag
      have S41 := S40.sl
      clear S40
      refine nrm_mk ⟨hB, ?_⟩
      refine Sl.hany [13] (by kernel_rfl) (by simp) ⟨⟨_, rfl, ?_⟩, trivial⟩
      have S42 : St _ _ _ _ _ _ := ⟨S41, hK⟩
      clear S41
      refine S42.allocA (want_none rfl) rfl rfl rfl (Try.zeroValue2 _) rfl (fun b9 a w hq3 hq4 S43 => ?_); clear S42 hq3 hq4
      refine wpList_n ?_
      have hB := S43.bag.base [(9, _), (8, _)] ⟨rfl, rfl, trivial⟩
      have hK := S43.bag
      have S44 := S43.sl
      clear S43
      refine nrm_mk ⟨hB, ?_⟩
      refine Sl.hany [14] (by kernel_rfl) (by simp) ⟨⟨_, rfl, ?_⟩, trivial⟩
      have S45 : St _ _ _ _ _ _ := ⟨S44, hK⟩
      clear S44
      refine S45.store1 (want_none rfl) rfl rfl rfl rfl one2 8 rfl rfl rfl rfl rfl (fun a w S46 => ?_); clear S45
      refine wpList_n ?_
      have hB := S46.bag.base [(8, _), (9, _), (8, _)] ⟨rfl, rfl, rfl, trivial⟩
      have hK := S46.bag
      have S47 := S46.sl
      clear S46
      refine nrm_mk ⟨hB, ?_⟩
      refine Sl.hany [15] (by kernel_rfl) (by simp) ⟨⟨_, rfl, ?_⟩, trivial⟩
      have S48 : St _ _ _ _ _ _ := ⟨S47, hK⟩
      clear S47
      refine S48.store1 (want_none rfl) rfl rfl rfl rfl one2 9 rfl rfl rfl rfl rfl (fun a w S49 => ?_); clear S48
      refine wpList_n ?_
      have hB := S49.bag.base [(9, _), (8, _), (9, _), (8, _)] ⟨rfl, rfl, rfl, rfl, trivial⟩
      have hK := S49.bag
      have S50 := S49.sl
      clear S49
      refine nrm_mk ⟨hB, ?_⟩
      have S51 : St _ _ _ _ _ _ := ⟨S50, hK⟩
      exact hend (by kernel_rfl) (⟨_, _, S51.to ⟨rfl, rfl, rfl, rfl, rfl, rfl, rfl, rfl, trivial⟩ ⟨rfl, rfl, rfl, rfl, rfl, rfl, rfl, trivial⟩⟩)
    · skip
      have S39 : St _ _ _ _ _ _ := ⟨S38, hK⟩
      clear S38
      refine S39.allocA (want_none rfl) rfl rfl rfl (Try.zeroValue2 _) rfl (fun b9 a w hq3 hq4 S40 => ?_); clear S39 hq3 hq4
      refine wpList_n ?_
      have hB := S40.bag.base [(9, _)] ⟨rfl, trivial⟩
      have hK := S40.bag
      have S41 := S40.sl
      clear S40
      refine nrm_mk ⟨hB, ?_⟩
      refine Sl.hany [12] (by kernel_rfl) (by simp) ⟨⟨_, rfl, ?_⟩, trivial⟩
      have S42 : St _ _ _ _ _ _ := ⟨S41, hK⟩
      clear S41
      refine S42.allocA (want_none rfl) rfl rfl rfl (Try.zeroValue2 _) rfl (fun b8 a w hq3 hq4 S43 => ?_); clear S42 hq3 hq4
      refine wpList_n ?_
      have hB := S43.bag.base [(8, _), (9, _)] ⟨rfl, rfl, trivial⟩
      have hK := S43.bag
      have S44 := S43.sl
      clear S43
      refine nrm_mk ⟨hB, ?_⟩
      refine Sl.hany [14] (by kernel_rfl) (by simp) ⟨⟨_, rfl, ?_⟩, trivial⟩
      have S45 : St _ _ _ _ _ _ := ⟨S44, hK⟩
      clear S44
      refine S45.store1 (want_none rfl) rfl rfl rfl rfl one2 8 rfl rfl rfl rfl rfl (fun a w S46 => ?_); clear S45
      refine wpList_n ?_
      have hB := S46.bag.base [(8, _), (8, _), (9, _)] ⟨rfl, rfl, rfl, trivial⟩
      have hK := S46.bag
      have S47 := S46.sl
      clear S46
      refine nrm_mk ⟨hB, ?_⟩
      refine Sl.hany [15] (by kernel_rfl) (by simp) ⟨⟨_, rfl, ?_⟩, trivial⟩
      have S48 : St _ _ _ _ _ _ := ⟨S47, hK⟩
      clear S47
      refine S48.store1 (want_none rfl) rfl rfl rfl rfl one2 9 rfl rfl rfl rfl rfl (fun a w S49 => ?_); clear S48
      refine wpList_n ?_
      have hB := S49.bag.base [(9, _), (8, _), (8, _), (9, _)] ⟨rfl, rfl, rfl, rfl, trivial⟩
      have hK := S49.bag
      have S50 := S49.sl
      clear S49
      refine nrm_mk ⟨hB, ?_⟩
      have S51 : St _ _ _ _ _ _ := ⟨S50, hK⟩
      exact hend (by kernel_rfl) (⟨_, _, S51.to ⟨rfl, rfl, rfl, rfl, rfl, rfl, rfl, rfl, trivial⟩ ⟨rfl, rfl, rfl, rfl, rfl, rfl, rfl, trivial⟩⟩)
  intro a w hP
  obtain ⟨b8, b9, S52⟩ := hP
  refine then_n ?_
  refine wp_seq ?_
  refine wp_block ?_
  refine wp_seq ?_
  refine wp_region_lit ?_
  refine S52.loadF (want_none rfl) rfl rfl rfl rfl row26 2 rfl (fun a S53 => ?_); clear S52
  refine S53.callB (want_none rfl) rfl rfl rfl rfl Try.call20 (valid_ok' f _ hf) (fun a w hq2 S54 => ?_); clear S53 hq2
  refine S54.un (want_none rfl) rfl rfl rfl rfl (notB _) (fun a S55 => ?_); clear S54
  refine S55.asg (want_none rfl) rfl rfl rfl rfl (fun a S56 => ?_); clear S55
  refine wpList_n ?_
  refine then_n ?_
  refine S56.noB rfl (rfl) ?_
  refine wp_seq ?_
  refine wp_region_lit ?_
  refine S56.fieldA (want_none rfl) rfl rfl rfl rfl (fld54_2 _ _ _) (fun a S57 => ?_); clear S56
  refine S57.load1 (want_none rfl) rfl rfl rfl rfl one50 3 rfl rfl (fun a S58 => ?_); clear S57
  refine S58.bin (want_none rfl) rfl rfl rfl rfl rfl (lssF Try.underlying50 _ _ _ _ (by omega)) (fun a S59 => ?_); clear S58
  refine S59.move (want_none rfl) rfl rfl rfl rfl (fun a S60 => ?_); clear S59
  refine S60.fieldA (S60.sl.want rfl rfl rfl rfl rfl) rfl rfl rfl rfl (fld54_3 _ _ _) (fun a S61 => ?_); clear S60
  refine S61.load1 (S61.sl.want rfl rfl rfl rfl rfl) rfl rfl rfl rfl one50 3 rfl rfl (fun a S62 => ?_); clear S61
  refine S62.bin (S62.sl.want rfl rfl rfl rfl rfl) rfl rfl rfl rfl rfl (lssF Try.underlying50 _ _ _ _ (by omega)) (fun a S63 => ?_); clear S62
  refine S63.pickF (want_none rfl) rfl rfl rfl rfl rfl (fun a S64 => ?_); clear S63
  refine S64.move (want_none rfl) rfl rfl rfl rfl (fun a S65 => ?_); clear S64
  refine S65.load1 (S65.sl.want rfl rfl rfl rfl rfl) rfl rfl rfl rfl one2 6 rfl rfl (fun a S66 => ?_); clear S65
  refine S66.load1 (S66.sl.want rfl rfl rfl rfl rfl) rfl rfl rfl rfl one2 7 rfl rfl (fun a S67 => ?_); clear S66
  refine S67.callQ (S67.sl.want rfl rfl rfl rfl rfl) rfl rfl rfl rfl Try.call131 (by have := isPlace_any x y; rw [show isP x y = true from by unfold isP; simp; omega] at this; exact this _) (fun a S68 => ?_); clear S67
  refine S68.un (S68.sl.want rfl rfl rfl rfl rfl) rfl rfl rfl rfl (notB _) (fun a S69 => ?_); clear S68
  refine S69.pickF (want_none rfl) rfl rfl rfl rfl rfl (fun a S70 => ?_); clear S69
  refine S70.move (want_none rfl) rfl rfl rfl rfl (fun a S71 => ?_); clear S70
  refine S71.load1 (S71.sl.want rfl rfl rfl rfl rfl) rfl rfl rfl rfl one2 8 rfl rfl (fun a S72 => ?_); clear S71
  refine S72.load1 (S72.sl.want rfl rfl rfl rfl rfl) rfl rfl rfl rfl one2 9 rfl rfl (fun a S73 => ?_); clear S72
  refine S73.callQ (S73.sl.want rfl rfl rfl rfl rfl) rfl rfl rfl rfl Try.call131 (by have := isPlace_any (x + wd - 1) (y + hg - 1); rw [show isP (x + wd - 1) (y + hg - 1) = true from by unfold isP; simp; omega] at this; exact this _) (fun a S74 => ?_); clear S73
  refine S74.un (S74.sl.want rfl rfl rfl rfl rfl) rfl rfl rfl rfl (notB _) (fun a S75 => ?_); clear S74
  refine S75.pickF (want_none rfl) rfl rfl rfl rfl rfl (fun a S76 => ?_); clear S75
  refine S76.asg (want_none rfl) rfl rfl rfl rfl (fun a S77 => ?_); clear S76
  refine wpList_n ?_
  refine then_n ?_
  refine S77.noB rfl (rfl) ?_
  refine wp_skip ?_
  refine blk_n ?_
  refine then_n ?_
  refine wp_seq ?_
  refine wp_region_lit ?_
  refine S77.mkFunc (want_none rfl) rfl rfl rfl rfl (fun a S78 => ?_)
  clear S77
  refine S78.callB (want_none rfl) rfl rfl rfl rfl Try.call104 (where_any _ _ _ _ (cut1_any f x (x + wd - 1) y (y + hg - 1) b2 b6 b8 b7 b9 _ _ _ _ _ _ (S78.bag.at 2 rfl) (S78.bag.at 6 rfl) (S78.bag.at 8 rfl) (S78.bag.at 7 rfl) (S78.bag.at 9 rfl))) (fun a w hq2 S79 => ?_); clear S78 hq2
  refine S79.storeF (want_none rfl) rfl rfl rfl rfl row26 4 rfl (fun a w S80 => ?_); clear S79
  refine S80.asg (want_none rfl) rfl rfl rfl rfl (fun a S81 => ?_); clear S80
  refine wpList_n ?_
  refine then_n ?_
  refine wp_ret ?_
  exact retF2 S81 rfl 4 rfl rfl rfl ⟨rfl, S81.bag.below⟩
end Go.Proofs.Ythhimlicaiifdaa
