/- Blobs: what the program's functions return. -/
import Derived.Test.YthhimlicaiifdaaZ1
import Derived.Test.YthhimlicaiifdaaB1
import Derived.Deep.LoopGhost
set_option maxRecDepth 100000
set_option linter.unusedSimpArgs false
set_option linter.unusedVariables false
namespace Go.Proofs.Ythhimlicaiifdaa
open Go.RowKit Fb
attribute [local go_sem ↓] Go.wp_at_zero Go.wp_at_succ

theorem blob_more {f : Fr} {x y n : Nat} {out : Fr} (hx : x < 12) (hy : y < 12) (hd : f.dot x y = true) (h : Fr.iter f n (Fr.one x y) = out) (hne : ¬ out.grow.meet f = out) : n < 145 := by
  rcases Fr.iter_grows (Fr.ok_one hx hy) (Fr.subH_one hx hy hd) n with e | e
  · rw [h] at e; exact absurd e hne
  · have := Fr.cnt_le (Fr.iter f n (Fr.one x y)); omega
set_option maxHeartbeats 8000000 in
theorem blob_any (f : Fr) (x y : Nat) (w : World) (hf : f.ok = true) (hx : x < 12) (hy : y < 12) (hd : f.dot x y = true) : Calls Try.prog 133 #[frV f, .int .i64 x, .int .i64 y] w (RetB (frV (Fr.blobAt f x y)) w) := by
  have ho := ((BagB.start w).push w.heap.size (frC f) 26 rfl).push (w.heap.size + 1) (frC Fr.zero) 26 (by simp)
  go_enter Try.func133, Try.ntmps133
  go_wp2_with (go_at_call 132; refine (with_any _ x y _ (by omega) hy).mono ?_; rintro e w1 ⟨rfl, hb1⟩; have ho1 := (ho.call hb1).push w1.heap.size (frC (Fr.one x y)) 26 rfl)
  go_loopg [13] 145 (fun g _ wr => ∃ n, g = 145 - n ∧ n ≤ 145 ∧ BagB w [(w.heap.size, frC f, 26), (w.heap.size + 1, frC Fr.zero, 26), (w1.heap.size, frC (Fr.iter f n (Fr.one x y)), 26)] wr)
  case atStart => exact ⟨0, rfl, by omega, ho1⟩
  case round =>
    clear ho ho1
    obtain ⟨n, rfl, hn, ho⟩ := hrel
    have hout : (Fr.iter f n (Fr.one x y)).ok = true := Fr.ok_iter (Fr.ok_one hx hy) n
    generalize hout' : Fr.iter f n (Fr.one x y) = out at ho hout
    replace hout' := Lib.hid hout'
    have hod := ho.drew
    go_wp2
    refine wp_region_noPanic ?_
    refine wp_region_held_drew (S := fun w' => row? w' w.heap.size 0 12 = some (frC f) ∧ row? w' w1.heap.size 0 12 = some (frC out)) (by kernel_rfl) (⟨hod.ld 0 rfl, hod.ld 2 rfl⟩) (fun hHeld => ?_)
    refine wpAnyH_take (i := 0) (oi := _) rfl (by kernel_rfl) (by kernel_rfl) (by kernel_rfl) (fun _ _ _ h => h) (yieldsIf_load26 (by rfl) _ rfl _ _ rfl (out) (fun w h => h.2)) hHeld ?_
    try simp only [Act.put, List.setIfInBounds_toArray, List.set_cons_zero, List.set_cons_succ]
    refine wpAnyH_take (i := 2) (oi := _) rfl (by kernel_rfl) (by kernel_rfl) (by kernel_rfl) (fun _ _ _ h => h) (yieldsIf_load26 (by rfl) _ rfl _ _ rfl (f) (fun w h => h.1)) hHeld ?_
    try simp only [Act.put, List.setIfInBounds_toArray, List.set_cons_zero, List.set_cons_succ]
    refine wpAnyH_ready (rs := [1, 4]) (by kernel_rfl) (by simp) ?_
    refine AllReadyH.cons (o := _) rfl (fun K hK => ?_) ?_
    · skip
      go_simp
      go_wp2_with (go_at_call 135; refine (grown_ok out _ hout).mono ?_; rintro e wr1 ⟨rfl, hbr1⟩; have r1 := hod.call hbr1)
      refine hK.out _ _ (⟨r1.ld 0 rfl, r1.ld 2 rfl⟩) (fun hHeld => ?_)
      clear hK K
      try simp only [Act.put, List.setIfInBounds_toArray, List.set_cons_zero, List.set_cons_succ]
      refine wpAnyH_ready (rs := [3, 4]) (by kernel_rfl) (by simp) ?_
      refine AllReadyH.cons (o := _) rfl (fun K hK => ?_) ?_
      · skip
        go_simp
        go_wp2_with (go_at_call 127; refine (meet_any out.grow f _).mono ?_; rintro e wr2 ⟨rfl, hbr2⟩; have r2 := r1.call hbr2)
        refine hK.out _ _ (⟨r2.ld 0 rfl, r2.ld 2 rfl⟩) (fun hHeld => ?_)
        clear hK K
        try simp only [Act.put, List.setIfInBounds_toArray, List.set_cons_zero, List.set_cons_succ]
        refine wpAnyH_ready (rs := [4]) (by kernel_rfl) (by simp) ?_
        refine AllReadyH.cons (o := _) rfl (fun K hK => ?_) AllReadyH.nil
        have r3 := r2.push (wr2.heap.size) (frC Fr.zero) 26 rfl
        go_simp
        refine hK.out _ _ (⟨r3.ld 0 rfl, r3.ld 2 rfl⟩) (fun hHeld => ?_)
        clear hK K
        try simp only [Act.put, List.setIfInBounds_toArray, List.set_cons_zero, List.set_cons_succ]
        refine wpAnyH_ready (rs := [5]) (by kernel_rfl) (by simp) ?_
        refine AllReadyH.cons (o := _) rfl (fun K hK => ?_) AllReadyH.nil
        have kfr4 := (r3.at 3 rfl).fits 0 12
        have kpr4 := (r3.at 3 rfl).put 0
        have r4 := r3.set 3 rfl (frC (out.grow.meet f)) rfl
        go_simp
        refine hK.out _ _ (⟨r4.ld 0 rfl, r4.ld 2 rfl⟩) (fun hHeld => ?_)
        clear hK K
        try simp only [Act.put, List.setIfInBounds_toArray, List.set_cons_zero, List.set_cons_succ]
        refine wpAnyH_done (by kernel_rfl) ?_ _
        refine NoPanic.normal ?_
        clear hHeld
        have hbag := r4
        by_cases hfx : out.grow.meet f = out
        · rw [hfx] at hbag ⊢
          have hF := Lib.hid hfx
          clear hfx
          have l1 := hbag.ld 3 rfl
          have l2 := hbag.ld 2 rfl
          have m1 := (hbag.at 1 rfl).fits 0 12
          have m2 := (hbag.at 1 rfl).put 0
          have hoe := hbag.set 1 rfl (frC out) rfl
          have hq : Blk _ (w.heap.size + 1) (frC out) 26 := hoe.at 1 rfl
          go_wp2
          exact bodyPost_ret (results26_blk rfl rfl hq) rfl (RetB.mk (by rw [← hout'.out, Fr.blob_of_fixed (Fr.ok_one hx hy) (Fr.subH_one hx hy hd) (by rw [hout'.out]; exact hF.out)]; rfl) hoe.below)
        · have l1 := r4.ld 3 rfl
          have l2 := r4.ld 2 rfl
          have m1 := (r4.at 2 rfl).fits 0 12
          have m2 := (r4.at 2 rfl).put 0
          have hoe := r4.set 2 rfl (frC (out.grow.meet f)) rfl
          have hF := Lib.hid hfx
          go_wp2
          go_roundg (145 - (n + 1))
          case measure => have := blob_more hx hy hd hout'.out hF.out; omega
          case rel => exact ⟨n + 1, rfl, by have := blob_more hx hy hd hout'.out hF.out; omega, BagB.take (L' := [(_, _, _)]) (by rw [Fr.iter_succ', hout'.out]; exact hoe)⟩
      refine AllReadyH.cons (o := _) rfl (fun K hK => ?_) AllReadyH.nil
      have r5 := r1.push (wr1.heap.size) (frC Fr.zero) 26 rfl
      go_simp
      refine hK.out _ _ (⟨r5.ld 0 rfl, r5.ld 2 rfl⟩) (fun hHeld => ?_)
      clear hK K
      try simp only [Act.put, List.setIfInBounds_toArray, List.set_cons_zero, List.set_cons_succ]
      refine wpAnyH_ready (rs := [3]) (by kernel_rfl) (by simp) ?_
      refine AllReadyH.cons (o := _) rfl (fun K hK => ?_) AllReadyH.nil
      go_simp
      go_wp2_with (go_at_call 127; refine (meet_any out.grow f _).mono ?_; rintro e wr6 ⟨rfl, hbr6⟩; have r6 := r5.call hbr6)
      refine hK.out _ _ (⟨r6.ld 0 rfl, r6.ld 2 rfl⟩) (fun hHeld => ?_)
      clear hK K
      try simp only [Act.put, List.setIfInBounds_toArray, List.set_cons_zero, List.set_cons_succ]
      refine wpAnyH_ready (rs := [5]) (by kernel_rfl) (by simp) ?_
      refine AllReadyH.cons (o := _) rfl (fun K hK => ?_) AllReadyH.nil
      have kfr7 := (r6.at 3 rfl).fits 0 12
      have kpr7 := (r6.at 3 rfl).put 0
      have r7 := r6.set 3 rfl (frC (out.grow.meet f)) rfl
      go_simp
      refine hK.out _ _ (⟨r7.ld 0 rfl, r7.ld 2 rfl⟩) (fun hHeld => ?_)
      clear hK K
      try simp only [Act.put, List.setIfInBounds_toArray, List.set_cons_zero, List.set_cons_succ]
      refine wpAnyH_done (by kernel_rfl) ?_ _
      refine NoPanic.normal ?_
      clear hHeld
      have hbag := r7
      by_cases hfx : out.grow.meet f = out
      · rw [hfx] at hbag ⊢
        have hF := Lib.hid hfx
        clear hfx
        have l1 := hbag.ld 3 rfl
        have l2 := hbag.ld 2 rfl
        have m1 := (hbag.at 1 rfl).fits 0 12
        have m2 := (hbag.at 1 rfl).put 0
        have hoe := hbag.set 1 rfl (frC out) rfl
        have hq : Blk _ (w.heap.size + 1) (frC out) 26 := hoe.at 1 rfl
        go_wp2
        exact bodyPost_ret (results26_blk rfl rfl hq) rfl (RetB.mk (by rw [← hout'.out, Fr.blob_of_fixed (Fr.ok_one hx hy) (Fr.subH_one hx hy hd) (by rw [hout'.out]; exact hF.out)]; rfl) hoe.below)
      · have l1 := r7.ld 3 rfl
        have l2 := r7.ld 2 rfl
        have m1 := (r7.at 2 rfl).fits 0 12
        have m2 := (r7.at 2 rfl).put 0
        have hoe := r7.set 2 rfl (frC (out.grow.meet f)) rfl
        have hF := Lib.hid hfx
        go_wp2
        go_roundg (145 - (n + 1))
        case measure => have := blob_more hx hy hd hout'.out hF.out; omega
        case rel => exact ⟨n + 1, rfl, by have := blob_more hx hy hd hout'.out hF.out; omega, BagB.take (L' := [(_, _, _)]) (by rw [Fr.iter_succ', hout'.out]; exact hoe)⟩
    refine AllReadyH.cons (o := _) rfl (fun K hK => ?_) AllReadyH.nil
    have r8 := hod.push (wr.heap.size) (frC Fr.zero) 26 rfl
    go_simp
    refine hK.out _ _ (⟨r8.ld 0 rfl, r8.ld 2 rfl⟩) (fun hHeld => ?_)
    clear hK K
    try simp only [Act.put, List.setIfInBounds_toArray, List.set_cons_zero, List.set_cons_succ]
    refine wpAnyH_ready (rs := [1]) (by kernel_rfl) (by simp) ?_
    refine AllReadyH.cons (o := _) rfl (fun K hK => ?_) AllReadyH.nil
    go_simp
    go_wp2_with (go_at_call 135; refine (grown_ok out _ hout).mono ?_; rintro e wr9 ⟨rfl, hbr9⟩; have r9 := r8.call hbr9)
    refine hK.out _ _ (⟨r9.ld 0 rfl, r9.ld 2 rfl⟩) (fun hHeld => ?_)
    clear hK K
    try simp only [Act.put, List.setIfInBounds_toArray, List.set_cons_zero, List.set_cons_succ]
    refine wpAnyH_ready (rs := [3]) (by kernel_rfl) (by simp) ?_
    refine AllReadyH.cons (o := _) rfl (fun K hK => ?_) AllReadyH.nil
    go_simp
    go_wp2_with (go_at_call 127; refine (meet_any out.grow f _).mono ?_; rintro e wr10 ⟨rfl, hbr10⟩; have r10 := r9.call hbr10)
    refine hK.out _ _ (⟨r10.ld 0 rfl, r10.ld 2 rfl⟩) (fun hHeld => ?_)
    clear hK K
    try simp only [Act.put, List.setIfInBounds_toArray, List.set_cons_zero, List.set_cons_succ]
    refine wpAnyH_ready (rs := [5]) (by kernel_rfl) (by simp) ?_
    refine AllReadyH.cons (o := _) rfl (fun K hK => ?_) AllReadyH.nil
    have kfr11 := (r10.at 3 rfl).fits 0 12
    have kpr11 := (r10.at 3 rfl).put 0
    have r11 := r10.set 3 rfl (frC (out.grow.meet f)) rfl
    go_simp
    refine hK.out _ _ (⟨r11.ld 0 rfl, r11.ld 2 rfl⟩) (fun hHeld => ?_)
    clear hK K
    try simp only [Act.put, List.setIfInBounds_toArray, List.set_cons_zero, List.set_cons_succ]
    refine wpAnyH_done (by kernel_rfl) ?_ _
    refine NoPanic.normal ?_
    clear hHeld
    have hbag := r11
    by_cases hfx : out.grow.meet f = out
    · rw [hfx] at hbag ⊢
      have hF := Lib.hid hfx
      clear hfx
      have l1 := hbag.ld 3 rfl
      have l2 := hbag.ld 2 rfl
      have m1 := (hbag.at 1 rfl).fits 0 12
      have m2 := (hbag.at 1 rfl).put 0
      have hoe := hbag.set 1 rfl (frC out) rfl
      have hq : Blk _ (w.heap.size + 1) (frC out) 26 := hoe.at 1 rfl
      go_wp2
      exact bodyPost_ret (results26_blk rfl rfl hq) rfl (RetB.mk (by rw [← hout'.out, Fr.blob_of_fixed (Fr.ok_one hx hy) (Fr.subH_one hx hy hd) (by rw [hout'.out]; exact hF.out)]; rfl) hoe.below)
    · have l1 := r11.ld 3 rfl
      have l2 := r11.ld 2 rfl
      have m1 := (r11.at 2 rfl).fits 0 12
      have m2 := (r11.at 2 rfl).put 0
      have hoe := r11.set 2 rfl (frC (out.grow.meet f)) rfl
      have hF := Lib.hid hfx
      go_wp2
      go_roundg (145 - (n + 1))
      case measure => have := blob_more hx hy hd hout'.out hF.out; omega
      case rel => exact ⟨n + 1, rfl, by have := blob_more hx hy hd hout'.out hF.out; omega, BagB.take (L' := [(_, _, _)]) (by rw [Fr.iter_succ', hout'.out]; exact hoe)⟩
end Go.Proofs.Ythhimlicaiifdaa
