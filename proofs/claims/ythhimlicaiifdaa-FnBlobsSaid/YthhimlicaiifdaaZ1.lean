/- Frames grown, blobs: what the program's functions return. -/
import Derived.Test.YthhimlicaiifdaaY13
import Derived.Test.YthhimlicaiifdaaE1
import Derived.Deep.RegionHeld3
set_option maxRecDepth 100000
set_option linter.unusedSimpArgs false
set_option linter.unusedVariables false
namespace Go.Proofs.Ythhimlicaiifdaa
open Go.RowKit Fb
attribute [local go_sem ↓] Go.wp_at_zero Go.wp_at_succ

theorem Blk.range {w : World} {b : Nat} {f : Fr} {t : TypeId} (h : Blk w b (frC f) t) : w.rangeAt b 0 (frC f).toList := fun j v hv => by
  rw [h.cell, Nat.zero_add]
  rwa [Array.getElem?_toList] at hv
theorem rangeAt_below {w w1 : World} {b o : Nat} {cs : List Value} (h : w.rangeAt b o cs) (hb : Below w.heap.size w w1) : w1.rangeAt b o cs := fun j v hv => by
  have := h j v hv
  exact (hb.cell (p := ⟨b, o + j, none⟩) (World.block_lt_of_cell? w _ this)).trans this
/-- A whole frame is loaded, whenever. -/
theorem yieldsIf_load26 {ops : Array Oper} {S : World → Prop} {op : Oper} {a : Act} (hw : Region.wanted op (yielded ops a.tmps) = true) (x : Operand) (ho : op.op = .load 26 x)
    (b o : Nat) (hx : a.eval x = .pointer (some ⟨b, o, none⟩)) (f : Fr) (hS : ∀ w, S w → row? w b o 12 = some (frC f)) : YieldsIf Try.prog ops S op (.agg (frC f)) a :=
  .inl ⟨hw, fun w hw' => by
    have h1 := run_loadVar_big under26 rfl info26 b o w
    rw [hS w hw', loadK_some] at h1
    unfold execOp
    simp only [ho, hx, Instr.loadAt, Instr.sureAddr, Sem.run_bind, Sem.run_pure, Result.andThen_ok, h1]⟩

set_option maxHeartbeats 8000000 in
theorem grown_any (f : Fr) (w : World) : Calls Try.prog 135 #[frV f] w (RetB (frV ((((f.join (f.slid 1 0)).join (f.slid (-1) 0)).join (f.slid 0 1)).join (f.slid 0 (-1)))) w) := by
  have ho : Own w [(frC f, 26), (frC Fr.zero, 26)] ((w.alloc (.cells (frC f) 26)).alloc (.cells (frC Fr.zero) 26)) := ((Own.start w).push rfl _ _).push (by simp) _ _
  have hS : ∀ W, Own w [(frC f, 26), (frC Fr.zero, 26)] W → row? W w.heap.size 0 12 = some (frC f) := fun W h => by rw [((h.at 0 rfl).facts' (Nat.add_zero _)).row, rowIn_fr]
  replace hS := Lib.hid hS
  have ho0 := ho.drew
  go_enter Try.func135, Try.ntmps135
  go_wp2
  refine wp_region_noPanic ?_
  refine wp_region_held_drew (S := fun w' => row? w' w.heap.size 0 12 = some (frC f)) (by kernel_rfl) (hS.out _ ho0) (fun hHeld => ?_)
  refine wpAnyH_take (i := 0) (oi := _) rfl (by kernel_rfl) (by kernel_rfl) (by kernel_rfl) (fun _ _ _ h => h) (yieldsIf_load26 (by rfl) _ rfl _ _ rfl (f) (fun w h => h)) hHeld ?_
  try simp only [Act.put, List.setIfInBounds_toArray, List.set_cons_zero, List.set_cons_succ]
  refine wpAnyH_take (i := 1) (oi := _) rfl (by kernel_rfl) (by kernel_rfl) (by kernel_rfl) (fun _ _ _ h => h) (yieldsIf_load26 (by rfl) _ rfl _ _ rfl (f) (fun w h => h)) hHeld ?_
  try simp only [Act.put, List.setIfInBounds_toArray, List.set_cons_zero, List.set_cons_succ]
  refine wpAnyH_take (i := 4) (oi := _) rfl (by kernel_rfl) (by kernel_rfl) (by kernel_rfl) (fun _ _ _ h => h) (yieldsIf_load26 (by rfl) _ rfl _ _ rfl (f) (fun w h => h)) hHeld ?_
  try simp only [Act.put, List.setIfInBounds_toArray, List.set_cons_zero, List.set_cons_succ]
  refine wpAnyH_take (i := 7) (oi := _) rfl (by kernel_rfl) (by kernel_rfl) (by kernel_rfl) (fun _ _ _ h => h) (yieldsIf_load26 (by rfl) _ rfl _ _ rfl (f) (fun w h => h)) hHeld ?_
  try simp only [Act.put, List.setIfInBounds_toArray, List.set_cons_zero, List.set_cons_succ]
  refine wpAnyH_take (i := 10) (oi := _) rfl (by kernel_rfl) (by kernel_rfl) (by kernel_rfl) (fun _ _ _ h => h) (yieldsIf_load26 (by rfl) _ rfl _ _ rfl (f) (fun w h => h)) hHeld ?_
  try simp only [Act.put, List.setIfInBounds_toArray, List.set_cons_zero, List.set_cons_succ]
  refine wpAnyH_ready (rs := [2]) (by kernel_rfl) (by simp) ?_
  refine AllReadyH.cons (o := _) rfl (fun K hK => ?_) AllReadyH.nil
  go_simp
  go_wp2_with (go_at_call 121; refine (moved_in f _ _ _ (by decide) (by decide)).mono ?_; rintro e w1 ⟨rfl, hb1⟩; have ho1 := ho0.call hb1)
  refine hK.out _ _ (hS.out _ ho1) (fun hHeld => ?_)
  clear hK K
  try simp only [Act.put, List.setIfInBounds_toArray, List.set_cons_zero, List.set_cons_succ]
  refine wpAnyH_ready (rs := [3]) (by kernel_rfl) (by simp) ?_
  refine AllReadyH.cons (o := _) rfl (fun K hK => ?_) AllReadyH.nil
  go_simp
  go_wp2_with (go_at_call 126; refine (join_any _ _ _).mono ?_; rintro e w2 ⟨rfl, hb2⟩; have ho2 := ho1.call hb2)
  refine hK.out _ _ (hS.out _ ho2) (fun hHeld => ?_)
  clear hK K
  try simp only [Act.put, List.setIfInBounds_toArray, List.set_cons_zero, List.set_cons_succ]
  refine wpAnyH_ready (rs := [5]) (by kernel_rfl) (by simp) ?_
  refine AllReadyH.cons (o := _) rfl (fun K hK => ?_) AllReadyH.nil
  go_simp
  go_wp2_with (go_at_call 121; refine (moved_in f _ _ _ (by decide) (by decide)).mono ?_; rintro e w3 ⟨rfl, hb3⟩; have ho3 := ho2.call hb3)
  refine hK.out _ _ (hS.out _ ho3) (fun hHeld => ?_)
  clear hK K
  try simp only [Act.put, List.setIfInBounds_toArray, List.set_cons_zero, List.set_cons_succ]
  refine wpAnyH_ready (rs := [6]) (by kernel_rfl) (by simp) ?_
  refine AllReadyH.cons (o := _) rfl (fun K hK => ?_) AllReadyH.nil
  go_simp
  go_wp2_with (go_at_call 126; refine (join_any _ _ _).mono ?_; rintro e w4 ⟨rfl, hb4⟩; have ho4 := ho3.call hb4)
  refine hK.out _ _ (hS.out _ ho4) (fun hHeld => ?_)
  clear hK K
  try simp only [Act.put, List.setIfInBounds_toArray, List.set_cons_zero, List.set_cons_succ]
  refine wpAnyH_ready (rs := [8]) (by kernel_rfl) (by simp) ?_
  refine AllReadyH.cons (o := _) rfl (fun K hK => ?_) AllReadyH.nil
  go_simp
  go_wp2_with (go_at_call 121; refine (moved_in f _ _ _ (by decide) (by decide)).mono ?_; rintro e w5 ⟨rfl, hb5⟩; have ho5 := ho4.call hb5)
  refine hK.out _ _ (hS.out _ ho5) (fun hHeld => ?_)
  clear hK K
  try simp only [Act.put, List.setIfInBounds_toArray, List.set_cons_zero, List.set_cons_succ]
  refine wpAnyH_ready (rs := [9]) (by kernel_rfl) (by simp) ?_
  refine AllReadyH.cons (o := _) rfl (fun K hK => ?_) AllReadyH.nil
  go_simp
  go_wp2_with (go_at_call 126; refine (join_any _ _ _).mono ?_; rintro e w6 ⟨rfl, hb6⟩; have ho6 := ho5.call hb6)
  refine hK.out _ _ (hS.out _ ho6) (fun hHeld => ?_)
  clear hK K
  try simp only [Act.put, List.setIfInBounds_toArray, List.set_cons_zero, List.set_cons_succ]
  refine wpAnyH_ready (rs := [11]) (by kernel_rfl) (by simp) ?_
  refine AllReadyH.cons (o := _) rfl (fun K hK => ?_) AllReadyH.nil
  go_simp
  go_wp2_with (go_at_call 121; refine (moved_in f _ _ _ (by decide) (by decide)).mono ?_; rintro e w7 ⟨rfl, hb7⟩; have ho7 := ho6.call hb7)
  refine hK.out _ _ (hS.out _ ho7) (fun hHeld => ?_)
  clear hK K
  try simp only [Act.put, List.setIfInBounds_toArray, List.set_cons_zero, List.set_cons_succ]
  refine wpAnyH_ready (rs := [12]) (by kernel_rfl) (by simp) ?_
  refine AllReadyH.cons (o := _) rfl (fun K hK => ?_) AllReadyH.nil
  go_simp
  go_wp2_with (go_at_call 126; refine (join_any _ _ _).mono ?_; rintro e w8 ⟨rfl, hb8⟩; have ho8 := ho7.call hb8; have q1 := (ho8.at 1 rfl).fits 0 12; have q2 := (ho8.at 1 rfl).put 0)
  refine hK.out _ _ (hS.out _ ho8) (fun hHeld => ?_)
  clear hK K
  try simp only [Act.put, List.setIfInBounds_toArray, List.set_cons_zero, List.set_cons_succ]
  refine wpAnyH_ready (rs := [13]) (by kernel_rfl) (by simp) ?_
  refine AllReadyH.cons (o := _) rfl (fun K hK => ?_) AllReadyH.nil
  go_simp
  have hoe := ho8.set' 1 rfl rfl (frC ((((f.join (f.slid 1 0)).join (f.slid (-1) 0)).join (f.slid 0 1)).join (f.slid 0 (-1)))) rfl
  refine hK.out _ _ (by rw [((hoe.at 0 rfl).facts' (Nat.add_zero _)).row, rowIn_fr]) (fun hHeld => ?_)
  clear hK K
  try simp only [Act.put, List.setIfInBounds_toArray, List.set_cons_zero, List.set_cons_succ]
  refine wpAnyH_done (by kernel_rfl) ?_ _
  refine NoPanic.normal ?_
  go_wp2
  exact bodyPost_ret (results26_blk rfl rfl ((hoe.at 1 rfl).facts' rfl)) rfl (RetB.mk rfl hoe.below)

theorem grown_ok (f : Fr) (w : World) (hf : f.ok = true) : Calls Try.prog 135 #[frV f] w (RetB (frV f.grow) w) := by
  have := grown_any f w
  rwa [Fr.slid_eq hf, Fr.slid_eq hf, Fr.slid_eq hf, Fr.slid_eq hf, Fr.grow_eq hf] at this
end Go.Proofs.Ythhimlicaiifdaa
