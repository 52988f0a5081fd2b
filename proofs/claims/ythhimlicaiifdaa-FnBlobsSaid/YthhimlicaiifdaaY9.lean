/- What draws: a frame. What is drawn is valid. -/
import Derived.Test.YthhimlicaiifdaaY8
import Derived.Deep.RegionWith
import Derived.Deep.DrawnRows
set_option maxRecDepth 100000
set_option linter.unusedSimpArgs false
set_option linter.unusedVariables false
namespace Go.Proofs.Ythhimlicaiifdaa
open Go.RowKit Fb
attribute [local go_sem ↓] Go.wp_at_zero Go.wp_at_succ

theorem Src.lt {b n : Nat} {w : World} (h : Src b n w) : b < w.heap.size := by
  obtain ⟨A, c, bs, seed, hB, _⟩ := h
  exact hB.lt
theorem row_of_int (r : Int) (h0 : 0 ≤ r) (h1 : r < 4096) : ∃ R : Row, r = rowI R ∧ R.toNat ≤ 4095 := by
  refine ⟨BitVec.ofNat 16 r.toNat, ?_, ?_⟩
  · unfold rowI; rw [BitVec.toNat_ofNat]; omega
  · rw [BitVec.toNat_ofNat]; omega
theorem ok_set_or {f : Fr} (h : f.ok = true) (y : Nat) (R : Row) (hR : R.toNat ≤ 4095) : (f.set y (f.row y ||| R)).ok = true := by
  refine Fr.ok_of_row fun i hi => ?_
  unfold Fr.set
  rw [Fr.row_gen_lt _ hi]
  split
  · apply Fr.le_of_high
    intro x hx
    rw [BitVec.getLsbD_or, Fr.lsb_high (Fr.ok_row h y) hx, Fr.lsb_high hR hx]
    rfl
  · exact Fr.ok_row h i

/-- A frame is drawn: it is valid. -/
def DrawnQ (s n k : Nat) (w : World) (e : Ending) (w' : World) : Prop :=
  ∃ f : Fr, e = .returned (frV f) ∧ f.ok = true ∧ But s w w' ∧ ∃ m, m ≤ n + k ∧ Src s m w'

set_option maxHeartbeats 4000000 in
theorem drawn_any (s n : Nat) (w : World) (h : Src s n w) (hs : s < w.heap.size) (hn : n ≤ 1000000000) : Calls Try.prog 102 #[.pointer (some ⟨s, 0, none⟩)] w (DrawnQ s n 200 w) := by
  have hb0 : Below w.heap.size w ((w.alloc (.cells (frC Fr.zero) 26)).alloc (.cells (frC Fr.zero) 26)) := ((Below.refl _ _).alloc (Nat.le_refl _) _).alloc (by simp) _
  have hS := Lib.hid (h.but hb0)
  have ho0 : Own w [(frC Fr.zero, 26), (frC Fr.zero, 26)] ((w.alloc (.cells (frC Fr.zero) 26)).alloc (.cells (frC Fr.zero) 26)) := ((Own.start w).push rfl _ _).push (by simp) _ _
  have ho := OwnS.of_own ho0 hs
  clear ho0 hb0 h
  go_enter Try.func102, Try.ntmps102
  go_wp2_with (go_at_call 176; refine (pick_any _ _ _ (by omega) (by omega) _ hS.out (by omega)).mono ?_; rintro e w1 ⟨x, rfl, hx1, hx2, hb1, m1, hm1, hs1⟩; have ho1 := ho.call hb1; replace hs1 := Lib.hid hs1)
  go_wp2_with (go_at_call 176; refine (pick_any _ _ _ (by omega) (by omega) _ hs1.out (by omega)).mono ?_; rintro e w2 ⟨y, rfl, hy1, hy2, hb2, m2, hm2, hs2⟩; have ho2 := ho1.call hb2; replace hs2 := Lib.hid hs2)
  go_wp2_with (go_at_call 176; refine (pick_any _ _ _ (by omega) (by omega) _ hs2.out (by omega)).mono ?_; rintro e w3 ⟨k, rfl, hk1, hk2, hb3, m3, hm3, hs3⟩; have ho3 := ho2.call hb3; replace hs3 := Lib.hid hs3)
  clear ho ho1 ho2 hb1 hb2 hb3 hS hs1 hs2
  go_loopw [4, 5, 6] (fun x y t wr => ∃ (k : Nat) (x' y' : Int) (f : Fr) (m : Nat), k ≤ 13 ∧ t = .int .i64 k ∧ x = .int .i64 x' ∧ y = .int .i64 y' ∧ 0 ≤ x' ∧ x' < 12 ∧ 0 ≤ y' ∧ y' < 12 ∧ f.ok = true ∧ OwnS s w [(frC Fr.zero, 26), (frC f, 26)] wr ∧ m + 8 * k ≤ n + 110 ∧ Src s m wr) (fun _ _ t _ => (intOf t).toNat)
  case atStart => exact ⟨k.toNat, x, y, Fr.zero, m3, by omega, by rw [Int.toNat_of_nonneg hk1], rfl, rfl, by omega, by omega, by omega, by omega, Fr.ok_zero, ho3, by omega, hs3.out⟩
  case round =>
    clear ho3 hs3
    obtain ⟨k, x', y', f, m, hk, rfl, rfl, rfl, hx1, hx2, hy1, hy2, hf, ho, hm, hsrc⟩ := hrel
    replace hsrc := Lib.hid hsrc
    by_cases hk0 : 0 < k
    · go_wp2_with (go_at_call 111; refine (sPut_any f _ 26 _ _ _ ((ho.at 1 rfl).facts' rfl)).mono ?_; rintro e wp ⟨rfl, hup⟩; have hop := OwnS.upd ho 1 rfl rfl hup rfl; replace hsrc := Lib.hid (Src.of_upd hsrc.out hup (by omega)))
      go_wp2_with (go_at_call 176; refine (pick_any _ _ _ (by omega) (by omega) _ hsrc.out (by omega)).mono ?_; rintro e wc ⟨c, rfl, hc1, hc2, hcb, mcm, hcm1, hcs⟩; have hco := hop.call hcb; replace hcs := Lib.hid hcs)
      all_goals go_wp2_with (first | (go_at_call 176; refine (pick_any _ _ _ (by omega) (by omega) _ hcs.out (by omega)).mono ?_; rintro e wd ⟨d, rfl, hd1, hd2, hdb, mdm, hdm1, hds⟩; have hdo := hco.call hdb; replace hds := Lib.hid hds) | (go_at_call 176; refine (pick_any _ _ _ (by omega) (by omega) _ hds.out (by omega)).mono ?_; rintro e we ⟨e, rfl, he1, he2, heb, mem, hem1, hes⟩; have heo := hdo.call heb; replace hes := Lib.hid hes))
      all_goals go_roundw
      all_goals first | (simp [intOf]; omega) | exact ⟨k - 1, _, _, _, mem, by omega, congrArg _ (by omega), rfl, rfl, by omega, by omega, by omega, by omega, Fr.ok_putI hf _ _, heo, by omega, hes.out⟩ | exact ⟨k - 1, _, _, _, mdm, by omega, congrArg _ (by omega), rfl, rfl, by omega, by omega, by omega, by omega, Fr.ok_putI hf _ _, hdo, by omega, hds.out⟩ | exact ⟨k - 1, _, _, _, mcm, by omega, congrArg _ (by omega), rfl, rfl, by omega, by omega, by omega, by omega, Fr.ok_putI hf _ _, hco, by omega, hcs.out⟩
    · obtain rfl : k = 0 := by omega
      go_wp2_with (go_at_call 202; refine (one_any _ _ _ (by omega) (by omega) _ hsrc.out (by omega)).mono ?_; rintro e wo ⟨p, rfl, hob, mo, hom1, hos⟩; have hoo := ho.call hob; replace hos := Lib.hid hos; obtain ⟨f1, f2, f3, f4, f5, f6, f7⟩ := (hoo.at 0 rfl).facts (Nat.add_zero _); obtain ⟨g1, g2, g3, g4, g5, g6, g7⟩ := (hoo.at 1 rfl).facts rfl)
      · have hp : p = true := by assumption
        subst hp
        clear f1 f2 f3 f4 f5 f6 f7 g1 g2 g3 g4 g5 g6 g7
        go_loopw [7] (fun t wr => ∃ (k : Nat) (f : Fr) (m : Nat), k ≤ 12 ∧ t = .int .i64 k ∧ f.ok = true ∧ OwnS s w [(frC Fr.zero, 26), (frC f, 26)] wr ∧ m + 2 * (12 - k) ≤ n + 150 ∧ Src s m wr) (fun t _ => 12 - (intOf t).toNat)
        case atStart => exact ⟨0, f, mo, by omega, rfl, hf, hoo, by omega, hos.out⟩
        case round =>
          clear ho hoo hos hsrc hm hf hob
          obtain ⟨k, f, m, hk, rfl, hf, ho, hm, hsrc⟩ := hrel
          replace hsrc := Lib.hid hsrc
          by_cases hlt : k < 12
          · have hd1 : decide ((k : Int) < 12) = true := by simp; omega
            obtain ⟨g1, g2, g3, g4, g5, g6, g7⟩ := (ho.at 1 rfl).facts rfl
            have c1 := g1 k
            rw [frC_at f hlt] at c1
            have hsd : Hid (Src s m wr.drew) := Lib.hid hsrc.out
            go_wp2
            go_region_with (go_at_call 176; refine (pick_any _ _ _ (by omega) (by omega) _ hsd.out (by omega)).mono ?_; rintro e wq ⟨r, rfl, hr1, hr2, hqb, mq, hqm, hqs⟩; have hqo := ho.drew.call hqb; replace hqs := Lib.hid hqs; obtain ⟨R, rfl, hR⟩ := row_of_int r hr1 hr2; obtain ⟨q1, q2, q3, q4, q5, q6, q7⟩ := (hqo.at 1 rfl).facts rfl; have c2 := q1 k; rw [frC_at f hlt] at c2)
            all_goals go_wp2
            all_goals go_roundw
            all_goals first | (simp [intOf]; omega) | exact ⟨k + 1, _, mq, by omega, by go_num, ok_set_or hf _ _ hR, OwnS.set' hqo 1 rfl rfl _ rfl, by omega, Src.of_upd hqs.out (Upd.set (Upd.start ((hqo.at 1 rfl).facts' rfl)) _) (by omega)⟩
          · obtain rfl : k = 12 := by omega
            obtain ⟨f1, f2, f3, f4, f5, f6, f7⟩ := (ho.at 0 rfl).facts (Nat.add_zero _)
            obtain ⟨g1, g2, g3, g4, g5, g6, g7⟩ := (ho.at 1 rfl).facts rfl
            go_wp2
            have hoe := ho.set' 0 rfl (Nat.add_zero _).symm (frC f) rfl
            exact bodyPost_ret (results26_blk rfl rfl ((hoe.at 0 rfl).facts' (Nat.add_zero _))) rfl ⟨f, rfl, hf, hoe.but, m, by omega, (Src.of_upd hsrc.out (Upd.set (Upd.start ((ho.at 0 rfl).facts' (Nat.add_zero _))) (frC f)) hs)⟩
      · have hoe := hoo.set' 0 rfl (Nat.add_zero _).symm (frC f) rfl
        exact bodyPost_ret (results26_blk rfl rfl ((hoe.at 0 rfl).facts' (Nat.add_zero _))) rfl ⟨f, rfl, hf, hoe.but, mo, by omega, (Src.of_upd hos.out (Upd.set (Upd.start ((hoo.at 0 rfl).facts' (Nat.add_zero _))) (frC f)) hs)⟩

theorem Own.but {w0 w w1 : World} {bs : List (Array Value × TypeId)} {b : Nat} (h : Own w0 bs w) (hb : But b w w1) (hn : w0.heap.size + bs.length ≤ b) : Own w0 bs w1 :=
  ⟨hb.below h.below (by omega), fun i c t hi => hb.blk (h.2 i c t hi) (by have := (List.getElem?_eq_some_iff.1 hi).1; omega)⟩
/-- A frame of the bytes: it is valid. -/
def AFrameQ (w : World) (e : Ending) (w' : World) : Prop := ∃ f : Fr, e = .returned (frV f) ∧ f.ok = true ∧ Below w.heap.size w w'
theorem aFrame_any (v : Value) (w : World) (h : CodeAt w v) : Calls Try.prog 9 #[v] w (AFrameQ w) := by
  have ho : Own w [(frC Fr.zero, 26)] (w.alloc (.cells (frC Fr.zero) 26)) := (Own.start w).push rfl _ _
  have hc := Lib.hid (h.below ho.below)
  obtain ⟨A, c, bs, rfl, _, _, _⟩ := h
  go_enter Try.func9, Try.ntmps9
  go_wp2_with (go_at_call 103; refine (from_any _ _ hc.out).mono ?_; rintro e w1 ⟨b, rfl, hb1, hbb, hs1⟩; have ho1 := ho.call hb1; replace hs1 := Lib.hid hs1)
  go_wp2_with (go_at_call 102; refine (drawn_any _ _ _ hs1.out hs1.out.lt (by omega)).mono ?_; rintro e w2 ⟨f, rfl, hf, hb2, m, hm, hs2⟩; have ho2 := Own.but ho1 hb2 (by simpa using hbb); obtain ⟨f1, f2, f3, f4, f5, f6, f7⟩ := (ho2.at 0 rfl).facts (Nat.add_zero _))
  have hoe := ho2.set' 0 rfl (Nat.add_zero _).symm (frC f) rfl
  exact bodyPost_ret (results26_blk rfl rfl ((hoe.at 0 rfl).facts' (Nat.add_zero _))) rfl ⟨f, rfl, hf, hoe.below⟩
end Go.Proofs.Ythhimlicaiifdaa
