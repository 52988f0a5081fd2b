/- Frames in the reference: turned, mirrored, rolled, moved. -/
import Derived.Test.YthhimlicaiifdaaY5
import Derived.StillTailTactics
set_option maxRecDepth 100000
set_option linter.unusedSimpArgs false
set_option linter.unusedVariables false
namespace Go.Proofs.Ythhimlicaiifdaa
open Go.RowKit Fb

/-- The dots put, as far as k. -/
def putTo (φ : Nat × Nat → Int × Int) (l : List (Nat × Nat)) (k : Nat) : Fr := (l.take k).foldl (fun h p => h.putI (φ p).1 (φ p).2) Fr.zero
theorem putTo_zero (φ : Nat × Nat → Int × Int) (l : List (Nat × Nat)) : putTo φ l 0 = Fr.zero := rfl
theorem putTo_succ (φ : Nat × Nat → Int × Int) (l : List (Nat × Nat)) (k : Nat) (p : Nat × Nat) (h : l[k]? = some p) : (putTo φ l k).putI (φ p).1 (φ p).2 = putTo φ l (k + 1) := by
  unfold putTo
  rw [List.take_add_one, h, List.foldl_append]
  rfl
theorem putTo_all (φ : Nat × Nat → Int × Int) (l : List (Nat × Nat)) : putTo φ l l.length = l.foldl (fun h p => h.putI (φ p).1 (φ p).2) Fr.zero := by unfold putTo; rw [List.take_length]

theorem dots_in {f : Fr} {k : Nat} {p : Nat × Nat} (h : f.dots[k]? = some p) : p.1 < 12 ∧ p.2 < 12 := by
  have := (Fr.mem_dots f p.1 p.2).1 (List.mem_of_getElem? h)
  exact ⟨this.1, this.2.1⟩
theorem dots_len (f : Fr) : f.dots.length ≤ 144 := Fr.cnt_le f

set_option maxHeartbeats 1000000 in
theorem sTurn_phi (f : Fr) (w : World) (hk : f.ok = true) (φ : Nat × Nat → Int × Int) (hφ : ∀ x y : Nat, φ (x, y) = (11 - (y : Int), (x : Int))) : Calls Try.prog 13 #[frV f] w (RetF2 f.turn 0 w) := by
  have hl := dots_len f
  have hfin := Lib.hid (show f.turn = putTo φ f.dots f.dots.length by rw [putTo_all]; exact (Fr.foldl_dots_eq f φ _ (fun u v h1 h2 h3 h4 => by
    constructor
    · intro h
      simp only [Fr.has, Bool.and_eq_true, decide_eq_true_eq] at h
      exact ⟨v.toNat, (11 - u).toNat, by omega, by omega, h.2, by rw [hφ]; simp only; omega, by rw [hφ]; simp only; omega⟩
    · rintro ⟨x, y, hx, hy, hd, rfl, rfl⟩
      rw [hφ]
      simp only
      rw [show (11 : Int) - (11 - (y : Int)) = y by omega, Fr.has_nat]
      simp [hx, hy, hd])).symm)
  have ho : Own w [(frC f, 26), (frC Fr.zero, 26), (frC Fr.zero, 26)] (((w.alloc (.cells (frC f) 26)).alloc (.cells (frC Fr.zero) 26)).alloc (.cells (frC Fr.zero) 26)) := (((Own.start w).push rfl _ _).push (by simp) _ _).push (by simp) _ _
  have ho' : Own w [(frC f, 26), (frC Fr.zero, 26)] ((w.alloc (.cells (frC f) 26)).alloc (.cells (frC Fr.zero) 26)) := ((Own.start w).push rfl _ _).push (by simp) _ _
  go_enter Try.func13, Try.ntmps13
  go_wp2_with (first | (go_at_call 109; refine (sOk_any f _ _ _ (FrAt.of_blk ((ho'.at 0 rfl).facts' (Nat.add_zero _)))).mono ?_; rintro e w1 ⟨rfl, rfl⟩) | (go_at_call 110; refine (sDots_any f _ _ _ (FrAt.of_blk ((ho.at 0 rfl).facts' (Nat.add_zero _)))).mono ?_; rintro e w1 ⟨v, rfl, hv, hb1⟩; have ho1 := ho.call hb1; obtain ⟨A, c, hvs⟩ := hv.slice; subst hvs))
  have hv1 := hv.mono (base' := w.heap.size + 3) (by simp)
  go_loopw [6] (fun t wr => ∃ k : Nat, k ≤ f.dots.length ∧ t = .int .i64 k ∧ Own w [(frC f, 26), (frC Fr.zero, 26), (frC (putTo φ f.dots k), 26)] wr ∧ Owns wr (w.heap.size + 3) 52 dotE 2 (.slice A f.dots.length c) f.dots) (fun t _ => f.dots.length - (intOf t).toNat)
  case atStart => exact ⟨0, by omega, rfl, ho1, hv1⟩
  case round =>
    clear ho1 hv1 hv hb1
    obtain ⟨k, hk2, rfl, ho1, hv1⟩ := hrel
    by_cases hlt : k < f.dots.length
    · obtain ⟨p, hp⟩ : ∃ p, f.dots[k]? = some p := ⟨_, List.getElem?_eq_getElem hlt⟩
      obtain ⟨b, hA, hbb, hbl, hcc⟩ := hv1.at dotE_len hp
      subst hA
      have hin := dots_in hp
      obtain ⟨px, py⟩ := p
      have hS := Lib.hid (putTo_succ φ f.dots k _ hp)
      have c0 := hcc 0 _ rfl
      have c1 := hcc 1 _ rfl
      have hq1 : px < 12 := hin.1
      have hq2 : py < 12 := hin.2
      clear hcc hin hp
      simp only [Nat.add_zero] at c0 c1
      go_wp2
      go_still_tail 13, (by kernel_rfl)
      change wpList _ _ _ _ _ wr.drew
      go_wp2_with (go_at_call 111; refine (sPut_any (putTo φ f.dots k) _ 26 _ _ _ (((ho1.at 2 rfl).facts' (show _ = w.heap.size + 1 + 1 from rfl)).drew)).mono ?_; rintro en w2 ⟨rfl, hu2⟩; have ho2 := Own.upd ho1.drew 2 rfl rfl hu2 rfl; have hv2 := Owns.upd hv1.drew (by omega) hu2)
      go_roundw
      case rel => exact ⟨k + 1, by omega, by go_num, by rw [← hS.out, hφ]; exact ho2, hv2⟩
      case measure => simp [intOf]; omega
    · obtain rfl : k = f.dots.length := by omega
      obtain ⟨f1, f2, f3, f4, f5, f6, f7⟩ := (ho1.at 2 rfl).facts (show _ = w.heap.size + 1 + 1 from rfl)
      obtain ⟨q1, q2, q3, q4, q5, q6, q7⟩ := (ho1.at 1 rfl).facts rfl
      go_wp2
      have ho3 := ho1.set' 1 rfl rfl (frC (putTo φ f.dots f.dots.length)) rfl
      exact bodyPost_ret (results26_two rfl rfl rfl (ho3.at 1 rfl)) rfl ⟨by rw [hfin.out]; rfl, ho3.below⟩
set_option maxHeartbeats 1000000 in
theorem sMirror_phi (f : Fr) (w : World) (hk : f.ok = true) (φ : Nat × Nat → Int × Int) (hφ : ∀ x y : Nat, φ (x, y) = (11 - (x : Int), (y : Int))) : Calls Try.prog 15 #[frV f] w (RetF2 f.mirror 0 w) := by
  have hl := dots_len f
  have hfin := Lib.hid (show f.mirror = putTo φ f.dots f.dots.length by rw [putTo_all]; exact (Fr.foldl_dots_eq f φ _ (fun u v h1 h2 h3 h4 => by
    constructor
    · intro h
      simp only [Fr.has, Bool.and_eq_true, decide_eq_true_eq] at h
      exact ⟨(11 - u).toNat, v.toNat, by omega, by omega, h.2, by rw [hφ]; simp only; omega, by rw [hφ]; simp only; omega⟩
    · rintro ⟨x, y, hx, hy, hd, rfl, rfl⟩
      rw [hφ]
      simp only
      rw [show (11 : Int) - (11 - (x : Int)) = x by omega, Fr.has_nat]
      simp [hx, hy, hd])).symm)
  have ho : Own w [(frC f, 26), (frC Fr.zero, 26), (frC Fr.zero, 26)] (((w.alloc (.cells (frC f) 26)).alloc (.cells (frC Fr.zero) 26)).alloc (.cells (frC Fr.zero) 26)) := (((Own.start w).push rfl _ _).push (by simp) _ _).push (by simp) _ _
  have ho' : Own w [(frC f, 26), (frC Fr.zero, 26)] ((w.alloc (.cells (frC f) 26)).alloc (.cells (frC Fr.zero) 26)) := ((Own.start w).push rfl _ _).push (by simp) _ _
  go_enter Try.func15, Try.ntmps15
  go_wp2_with (first | (go_at_call 109; refine (sOk_any f _ _ _ (FrAt.of_blk ((ho'.at 0 rfl).facts' (Nat.add_zero _)))).mono ?_; rintro e w1 ⟨rfl, rfl⟩) | (go_at_call 110; refine (sDots_any f _ _ _ (FrAt.of_blk ((ho.at 0 rfl).facts' (Nat.add_zero _)))).mono ?_; rintro e w1 ⟨v, rfl, hv, hb1⟩; have ho1 := ho.call hb1; obtain ⟨A, c, hvs⟩ := hv.slice; subst hvs))
  have hv1 := hv.mono (base' := w.heap.size + 3) (by simp)
  go_loopw [6] (fun t wr => ∃ k : Nat, k ≤ f.dots.length ∧ t = .int .i64 k ∧ Own w [(frC f, 26), (frC Fr.zero, 26), (frC (putTo φ f.dots k), 26)] wr ∧ Owns wr (w.heap.size + 3) 52 dotE 2 (.slice A f.dots.length c) f.dots) (fun t _ => f.dots.length - (intOf t).toNat)
  case atStart => exact ⟨0, by omega, rfl, ho1, hv1⟩
  case round =>
    clear ho1 hv1 hv hb1
    obtain ⟨k, hk2, rfl, ho1, hv1⟩ := hrel
    by_cases hlt : k < f.dots.length
    · obtain ⟨p, hp⟩ : ∃ p, f.dots[k]? = some p := ⟨_, List.getElem?_eq_getElem hlt⟩
      obtain ⟨b, hA, hbb, hbl, hcc⟩ := hv1.at dotE_len hp
      subst hA
      have hin := dots_in hp
      obtain ⟨px, py⟩ := p
      have hS := Lib.hid (putTo_succ φ f.dots k _ hp)
      have c0 := hcc 0 _ rfl
      have c1 := hcc 1 _ rfl
      have hq1 : px < 12 := hin.1
      have hq2 : py < 12 := hin.2
      clear hcc hin hp
      simp only [Nat.add_zero] at c0 c1
      go_wp2
      go_still_tail 13, (by kernel_rfl)
      change wpList _ _ _ _ _ wr.drew
      go_wp2_with (go_at_call 111; refine (sPut_any (putTo φ f.dots k) _ 26 _ _ _ (((ho1.at 2 rfl).facts' (show _ = w.heap.size + 1 + 1 from rfl)).drew)).mono ?_; rintro en w2 ⟨rfl, hu2⟩; have ho2 := Own.upd ho1.drew 2 rfl rfl hu2 rfl; have hv2 := Owns.upd hv1.drew (by omega) hu2)
      go_roundw
      case rel => exact ⟨k + 1, by omega, by go_num, by rw [← hS.out, hφ]; exact ho2, hv2⟩
      case measure => simp [intOf]; omega
    · obtain rfl : k = f.dots.length := by omega
      obtain ⟨f1, f2, f3, f4, f5, f6, f7⟩ := (ho1.at 2 rfl).facts (show _ = w.heap.size + 1 + 1 from rfl)
      obtain ⟨q1, q2, q3, q4, q5, q6, q7⟩ := (ho1.at 1 rfl).facts rfl
      go_wp2
      have ho3 := ho1.set' 1 rfl rfl (frC (putTo φ f.dots f.dots.length)) rfl
      exact bodyPost_ret (results26_two rfl rfl rfl (ho3.at 1 rfl)) rfl ⟨by rw [hfin.out]; rfl, ho3.below⟩
theorem sWay_ok (f : Fr) (b o : Nat) (e s : Int) (w : World) (hF : FrAt w b o f) (hk : f.ok = true) (he : -12 ≤ e ∧ e ≤ 12) (hs : -12 ≤ s ∧ s ≤ 12) : Calls Try.prog 120 #[.pointer (some ⟨b, o, none⟩), .int .i64 e, .int .i64 s] w (RetQ (.int .i64 0) w) := by
  have h1 := inR_t he.1 he.2
  have h2 := inR_t hs.1 hs.2
  go_enter Try.func120, Try.ntmps120
  go_wp2_with (first | (go_at_call 109; refine (sOk_any f _ _ _ hF).mono ?_; rintro en w1 ⟨rfl, rfl⟩) | (go_at_call 180; refine (sIn_any _ _ _ _).mono ?_; rintro en w' ⟨rfl, rfl⟩))
  go_ret
  exact RetQ.mk rfl

set_option maxHeartbeats 1000000 in
theorem sRoll_phi (f : Fr) (e s : Int) (w : World) (hk : f.ok = true) (he : -12 ≤ e ∧ e ≤ 12) (hs : -12 ≤ s ∧ s ≤ 12) (φ : Nat × Nat → Int × Int) (hφ : ∀ x y : Nat, φ (x, y) = (((x : Int) + e) % 12, ((y : Int) + s) % 12)) : Calls Try.prog 23 #[frV f, .int .i64 e, .int .i64 s] w (RetF2 (f.roll e s) 0 w) := by
  have hl := dots_len f
  have hfin := Lib.hid (show (f.roll e s) = putTo φ f.dots f.dots.length by rw [putTo_all]; exact (Fr.foldl_dots_eq f φ _ (fun u v h1 h2 h3 h4 => by
    constructor
    · intro h
      simp only [Fr.has, Bool.and_eq_true, decide_eq_true_eq] at h
      exact ⟨((u - e + 24) % 12).toNat, ((v - s + 24) % 12).toNat, by omega, by omega, h.2, by rw [hφ]; simp only; omega, by rw [hφ]; simp only; omega⟩
    · rintro ⟨x, y, hx, hy, hd, rfl, rfl⟩
      rw [hφ]
      simp only
      rw [show (((x : Int) + e) % 12 - e + 24) % 12 = x by omega, show (((y : Int) + s) % 12 - s + 24) % 12 = y by omega, Fr.has_nat]
      simp [hx, hy, hd])).symm)
  have ho : Own w [(frC f, 26), (frC Fr.zero, 26), (frC Fr.zero, 26)] (((w.alloc (.cells (frC f) 26)).alloc (.cells (frC Fr.zero) 26)).alloc (.cells (frC Fr.zero) 26)) := (((Own.start w).push rfl _ _).push (by simp) _ _).push (by simp) _ _
  have ho' : Own w [(frC f, 26), (frC Fr.zero, 26)] ((w.alloc (.cells (frC f) 26)).alloc (.cells (frC Fr.zero) 26)) := ((Own.start w).push rfl _ _).push (by simp) _ _
  go_enter Try.func23, Try.ntmps23
  go_wp2_with (first | (go_at_call 120; refine (sWay_ok f _ _ e s _ (FrAt.of_blk ((ho'.at 0 rfl).facts' (Nat.add_zero _))) hk he hs).mono ?_; rintro en w1 ⟨rfl, rfl⟩) | (go_at_call 110; refine (sDots_any f _ _ _ (FrAt.of_blk ((ho.at 0 rfl).facts' (Nat.add_zero _)))).mono ?_; rintro en w1 ⟨v, rfl, hv, hb1⟩; have ho1 := ho.call hb1; obtain ⟨A, c, hvs⟩ := hv.slice; subst hvs))
  have hv1 := hv.mono (base' := w.heap.size + 3) (by simp)
  go_loopw [11] (fun t wr => ∃ k : Nat, k ≤ f.dots.length ∧ t = .int .i64 k ∧ Own w [(frC f, 26), (frC Fr.zero, 26), (frC (putTo φ f.dots k), 26)] wr ∧ Owns wr (w.heap.size + 3) 52 dotE 2 (.slice A f.dots.length c) f.dots) (fun t _ => f.dots.length - (intOf t).toNat)
  case atStart => exact ⟨0, by omega, rfl, ho1, hv1⟩
  case round =>
    clear ho1 hv1 hv hb1
    obtain ⟨k, hk2, rfl, ho1, hv1⟩ := hrel
    by_cases hlt : k < f.dots.length
    · obtain ⟨p, hp⟩ : ∃ p, f.dots[k]? = some p := ⟨_, List.getElem?_eq_getElem hlt⟩
      obtain ⟨b, hA, hbb, hbl, hcc⟩ := hv1.at dotE_len hp
      subst hA
      have hin := dots_in hp
      obtain ⟨px, py⟩ := p
      have hS := Lib.hid (putTo_succ φ f.dots k _ hp)
      have c0 := hcc 0 _ rfl
      have c1 := hcc 1 _ rfl
      have hq1 : px < 12 := hin.1
      have hq2 : py < 12 := hin.2
      clear hcc hin hp
      simp only [Nat.add_zero] at c0 c1
      have p1 : (0 : Int) ≤ (px : Int) + e + 12 := by omega
      have p2 : (0 : Int) ≤ (py : Int) + s + 12 := by omega
      go_wp2_with (go_at_call 111; refine (sPut_any (putTo φ f.dots k) _ 26 _ _ _ ((ho1.at 2 rfl).facts' (show _ = w.heap.size + 1 + 1 from rfl))).mono ?_; rintro en w2 ⟨rfl, hu2⟩; have ho2 := Own.upd ho1 2 rfl rfl hu2 rfl; have hv2 := Owns.upd hv1 (by omega) hu2)
      go_roundw
      case rel => exact ⟨k + 1, by omega, by go_num, by rw [← hS.out, hφ]; exact ho2, hv2⟩
      case measure => simp [intOf]; omega
    · obtain rfl : k = f.dots.length := by omega
      obtain ⟨f1, f2, f3, f4, f5, f6, f7⟩ := (ho1.at 2 rfl).facts (show _ = w.heap.size + 1 + 1 from rfl)
      obtain ⟨q1, q2, q3, q4, q5, q6, q7⟩ := (ho1.at 1 rfl).facts rfl
      go_wp2
      have ho3 := ho1.set' 1 rfl rfl (frC (putTo φ f.dots f.dots.length)) rfl
      exact bodyPost_ret (results26_two rfl rfl rfl (ho3.at 1 rfl)) rfl ⟨by rw [hfin.out]; rfl, ho3.below⟩
set_option maxHeartbeats 1000000 in
theorem sMoved_phi (f : Fr) (b0 o0 : Nat) (e s : Int) (w : World) (hF : FrAt w b0 o0 f) (he : -4611686018427387904 ≤ e ∧ e ≤ 4611686018427387904) (hs : -4611686018427387904 ≤ s ∧ s ≤ 4611686018427387904) (φ : Nat × Nat → Int × Int) (hφ : ∀ x y : Nat, φ (x, y) = ((x : Int) + e, (y : Int) + s)) :
    Calls Try.prog 122 #[.pointer (some ⟨b0, o0, none⟩), .int .i64 e, .int .i64 s] w (RetB (frV (f.mv e s)) w) := by
  have hl := dots_len f
  have hfin := Lib.hid (show f.mv e s = putTo φ f.dots f.dots.length by
    rw [putTo_all, ← Fr.foldl_mv]
    congr 1
    funext h p
    rw [show p = (p.1, p.2) from rfl, hφ])
  have ho : Own w [(frC Fr.zero, 26), (frC Fr.zero, 26)] ((w.alloc (.cells (frC Fr.zero) 26)).alloc (.cells (frC Fr.zero) 26)) := ((Own.start w).push rfl _ _).push (by simp) _ _
  have hF1 := hF.below ho.below
  go_enter Try.func122, Try.ntmps122
  go_wp2_with (go_at_call 110; refine (sDots_any f _ _ _ hF1).mono ?_; rintro en w1 ⟨v, rfl, hv, hb1⟩; have ho1 := ho.call hb1; obtain ⟨A, c, hvs⟩ := hv.slice; subst hvs)
  have hv1 := hv.mono (base' := w.heap.size + 2) (by simp)
  go_loopw [9] (fun t wr => ∃ k : Nat, k ≤ f.dots.length ∧ t = .int .i64 k ∧ Own w [(frC Fr.zero, 26), (frC (putTo φ f.dots k), 26)] wr ∧ Owns wr (w.heap.size + 2) 52 dotE 2 (.slice A f.dots.length c) f.dots) (fun t _ => f.dots.length - (intOf t).toNat)
  case atStart => exact ⟨0, by omega, rfl, ho1, hv1⟩
  case round =>
    clear ho1 hv1 hv hb1
    obtain ⟨k, hk2, rfl, ho1, hv1⟩ := hrel
    by_cases hlt : k < f.dots.length
    · obtain ⟨p, hp⟩ : ∃ p, f.dots[k]? = some p := ⟨_, List.getElem?_eq_getElem hlt⟩
      obtain ⟨b, hA, hbb, hbl, hcc⟩ := hv1.at dotE_len hp
      subst hA
      have hin := dots_in hp
      obtain ⟨px, py⟩ := p
      have hS := Lib.hid (putTo_succ φ f.dots k _ hp)
      have c0 := hcc 0 _ rfl
      have c1 := hcc 1 _ rfl
      have hq1 : px < 12 := hin.1
      have hq2 : py < 12 := hin.2
      clear hcc hin hp
      simp only [Nat.add_zero] at c0 c1
      go_wp2
      go_still_tail 16, (by kernel_rfl)
      change wpList _ _ _ _ _ wr.drew
      go_wp2_with (go_at_call 111; refine (sPut_any (putTo φ f.dots k) _ 26 _ _ _ (((ho1.at 1 rfl).facts' rfl).drew)).mono ?_; rintro en w2 ⟨rfl, hu2⟩; have ho2 := Own.upd ho1.drew 1 rfl rfl hu2 rfl; have hv2 := Owns.upd hv1.drew (by omega) hu2)
      go_roundw
      case rel => exact ⟨k + 1, by omega, by go_num, by rw [← hS.out, hφ]; exact ho2, hv2⟩
      case measure => simp [intOf]; omega
    · obtain rfl : k = f.dots.length := by omega
      obtain ⟨f1, f2, f3, f4, f5, f6, f7⟩ := (ho1.at 0 rfl).facts (Nat.add_zero _)
      obtain ⟨q1, q2, q3, q4, q5, q6, q7⟩ := (ho1.at 1 rfl).facts rfl
      go_wp2
      have ho3 := ho1.set' 0 rfl (Nat.add_zero _).symm (frC (putTo φ f.dots f.dots.length)) rfl
      exact bodyPost_ret (results26_blk rfl rfl ((ho3.at 0 rfl).facts' (Nat.add_zero _))) rfl (RetB.mk (by rw [hfin.out]) ho3.below)

theorem sTurn_ok (f : Fr) (w : World) (hk : f.ok = true) : Calls Try.prog 13 #[frV f] w (RetF2 f.turn 0 w) := sTurn_phi f w hk (fun p => (11 - (p.2 : Int), (p.1 : Int))) fun _ _ => rfl
theorem sMirror_ok (f : Fr) (w : World) (hk : f.ok = true) : Calls Try.prog 15 #[frV f] w (RetF2 f.mirror 0 w) := sMirror_phi f w hk (fun p => (11 - (p.1 : Int), (p.2 : Int))) fun _ _ => rfl
theorem sRoll_ok (f : Fr) (e s : Int) (w : World) (hk : f.ok = true) (he : -12 ≤ e ∧ e ≤ 12) (hs : -12 ≤ s ∧ s ≤ 12) : Calls Try.prog 23 #[frV f, .int .i64 e, .int .i64 s] w (RetF2 (f.roll e s) 0 w) :=
  sRoll_phi f e s w hk he hs (fun p => (((p.1 : Int) + e) % 12, ((p.2 : Int) + s) % 12)) fun _ _ => rfl
theorem sMoved_any (f : Fr) (b0 o0 : Nat) (e s : Int) (w : World) (hF : FrAt w b0 o0 f) (he : -4611686018427387904 ≤ e ∧ e ≤ 4611686018427387904) (hs : -4611686018427387904 ≤ s ∧ s ≤ 4611686018427387904) :
    Calls Try.prog 122 #[.pointer (some ⟨b0, o0, none⟩), .int .i64 e, .int .i64 s] w (RetB (frV (f.mv e s)) w) := sMoved_phi f b0 o0 e s w hF he hs (fun p => ((p.1 : Int) + e, (p.2 : Int) + s)) fun _ _ => rfl

theorem sMove_ok (f : Fr) (e s : Int) (w : World) (hk : f.ok = true) (he : -12 ≤ e ∧ e ≤ 12) (hs : -12 ≤ s ∧ s ≤ 12) : Calls Try.prog 25 #[frV f, .int .i64 e, .int .i64 s] w (RetF2 (f.mv e s) 0 w) := by
  have ho : Own w [(frC f, 26), (frC Fr.zero, 26)] ((w.alloc (.cells (frC f) 26)).alloc (.cells (frC Fr.zero) 26)) := ((Own.start w).push rfl _ _).push (by simp) _ _
  have hF := FrAt.of_blk ((ho.at 0 rfl).facts' (Nat.add_zero _))
  go_enter Try.func25, Try.ntmps25
  go_wp2_with (first | (go_at_call 120; refine (sWay_ok f _ _ e s _ hF hk he hs).mono ?_; rintro en w1 ⟨rfl, rfl⟩) | (go_at_call 122; refine (sMoved_any f _ _ e s _ hF (by omega) (by omega)).mono ?_; rintro en w1 ⟨rfl, hb1⟩; have ho1 := ho.call hb1; obtain ⟨f1, f2, f3, f4, f5, f6, f7⟩ := (ho1.at 1 rfl).facts rfl))
  have ho3 := ho1.set' 1 rfl rfl (frC (f.mv e s)) rfl
  exact bodyPost_ret (results26_two rfl rfl rfl (ho3.at 1 rfl)) rfl ⟨rfl, ho3.below⟩

/-! ### Flipped, inverted -/
def flipS (f : Fr) (k : Nat) : Fr := Fr.gen fun y => if y < k then f.row (11 - y) else 0
theorem flipS_zero (f : Fr) : flipS f 0 = Fr.zero := Fr.ext_row fun y hy => by unfold flipS; rw [Fr.row_gen_lt _ hy, Fr.row_zero]; rfl
theorem flipS_all (f : Fr) : flipS f 12 = f.flip := Fr.ext_row fun y hy => by unfold flipS Fr.flip; rw [Fr.row_gen_lt _ hy, Fr.row_gen_lt _ hy, if_pos hy]
theorem flipS_succ (f : Fr) (k : Nat) (hk : k < 12) : (flipS f k).set k (f.row (11 - k)) = flipS f (k + 1) := Fr.ext_row fun y hy => by
  rw [Fr.row_set _ _ _ _ hk]
  unfold flipS
  rw [Fr.row_gen_lt _ hy, Fr.row_gen_lt _ hy]
  by_cases h1 : y = k
  · subst h1; rw [if_pos rfl, if_pos (by omega)]
  · rw [if_neg h1]
    by_cases h2 : y < k
    · rw [if_pos h2, if_pos (by omega)]
    · rw [if_neg h2, if_neg (by omega)]

set_option maxHeartbeats 1000000 in
theorem sFlip_ok (f : Fr) (w : World) (hk : f.ok = true) : Calls Try.prog 17 #[frV f] w (RetF2 f.flip 0 w) := by
  have ho : Own w [(frC f, 26), (frC Fr.zero, 26)] ((w.alloc (.cells (frC f) 26)).alloc (.cells (frC Fr.zero) 26)) := ((Own.start w).push rfl _ _).push (by simp) _ _
  go_enter Try.func17, Try.ntmps17
  go_wp2_with (go_at_call 109; refine (sOk_any f _ _ _ (FrAt.of_blk ((ho.at 0 rfl).facts' (Nat.add_zero _)))).mono ?_; rintro e w1 ⟨rfl, rfl⟩)
  go_loopw [5] (fun t wr => ∃ k : Nat, k ≤ 12 ∧ t = .int .i64 k ∧ Own w [(frC f, 26), (frC Fr.zero, 26), (frC (flipS f k), 26)] wr) (fun t _ => 12 - (intOf t).toNat)
  case atStart => exact ⟨0, by omega, rfl, by rw [flipS_zero]; exact ho.push (by simp) _ _⟩
  case round =>
    obtain ⟨k, hk2, rfl, ho1⟩ := hrel
    obtain ⟨f1, f2, f3, f4, f5, f6, f7⟩ := (ho1.at 0 rfl).facts (Nat.add_zero _)
    obtain ⟨k1, k2, k3, k4, k5, k6, k7⟩ := (ho1.at 2 rfl).facts (show _ = w.heap.size + 1 + 1 from rfl)
    by_cases hlt : k < 12
    · have hS := Lib.hid (flipS_succ f k hlt)
      obtain ⟨j, hj⟩ : ∃ j : Nat, j = 11 - k := ⟨_, rfl⟩
      have hj1 : (11 : Int) - (k : Int) = (j : Int) := by omega
      have hj2 : j < 12 := by omega
      have HJ := Lib.hid hj
      clear hj
      go_wp2
      go_roundw
      case rel => exact ⟨k + 1, by omega, by go_num, by rw [← hS.out, ← HJ.out]; exact ho1.set' 2 rfl (show w.heap.size + 1 + 1 = w.heap.size + 2 from rfl) _ rfl⟩
      case measure => simp [intOf]; omega
    · obtain rfl : k = 12 := by omega
      obtain ⟨q1, q2, q3, q4, q5, q6, q7⟩ := (ho1.at 1 rfl).facts rfl
      go_wp2
      have ho3 := ho1.set' 1 rfl rfl (frC (flipS f 12)) rfl
      exact bodyPost_ret (results26_two rfl rfl rfl (ho3.at 1 rfl)) rfl ⟨by rw [flipS_all]; rfl, ho3.below⟩

theorem sub4095 : ∀ n : Fin 4096, ((4095 : Row) &&& ~~~(BitVec.ofNat 16 n.val)).toNat = 4095 - n.val := by decide +kernel
theorem inv_row {v : Row} (h : rowI v ≤ 4095) : 4095 - rowI v = rowI (4095 &&& ~~~v) := by
  unfold rowI at *
  have := sub4095 ⟨v.toNat, by omega⟩
  simp only [BitVec.ofNat_toNat, BitVec.setWidth_eq] at this
  rw [this]
  omega
def invOp (a _b : Row) : Row := 4095 &&& ~~~a
theorem mixTo_row (op : Row → Row → Row) (f g : Fr) (k : Nat) (hk : k < 12) : (mixTo op f g k).row k = f.row k := by
  unfold mixTo; rw [Fr.row_gen_lt _ hk, if_neg (by omega)]

set_option maxHeartbeats 1000000 in
theorem sInvert_ok (f : Fr) (w : World) (hk : f.ok = true) : Calls Try.prog 19 #[frV f] w (RetF2 f.invert 0 w) := by
  have ho : Own w [(frC f, 26), (frC Fr.zero, 26)] ((w.alloc (.cells (frC f) 26)).alloc (.cells (frC Fr.zero) 26)) := ((Own.start w).push rfl _ _).push (by simp) _ _
  go_enter Try.func19, Try.ntmps19
  go_wp2_with (go_at_call 109; refine (sOk_any f _ _ _ (FrAt.of_blk ((ho.at 0 rfl).facts' (Nat.add_zero _)))).mono ?_; rintro e w1 ⟨rfl, rfl⟩)
  go_loopw [4] (fun t wr => ∃ k : Nat, k ≤ 12 ∧ t = .int .i64 k ∧ Own w [(frC (mixTo invOp f f k), 26), (frC Fr.zero, 26)] wr) (fun t _ => 12 - (intOf t).toNat)
  case atStart => exact ⟨0, by omega, rfl, by rw [mixTo_zero]; exact ho⟩
  case round =>
    obtain ⟨k, hk2, rfl, ho1⟩ := hrel
    obtain ⟨f1, f2, f3, f4, f5, f6, f7⟩ := (ho1.at 0 rfl).facts (Nat.add_zero _)
    by_cases hlt : k < 12
    · have hS := Lib.hid (mixTo_succ invOp f f k hlt)
      have hR := mixTo_row invOp f f k hlt
      have hle := rowI_le hk k
      have hlo := rowI_lo (f.row k)
      have hI := inv_row hle
      go_wp2
      go_roundw
      case rel => exact ⟨k + 1, by omega, by go_num, by rw [← hS.out]; exact ho1.set' 0 rfl (Nat.add_zero _).symm _ rfl⟩
      case measure => simp [intOf]; omega
    · obtain rfl : k = 12 := by omega
      obtain ⟨q1, q2, q3, q4, q5, q6, q7⟩ := (ho1.at 1 rfl).facts rfl
      go_wp2
      have ho3 := ho1.set' 1 rfl rfl (frC (mixTo invOp f f 12)) rfl
      exact bodyPost_ret (results26_two rfl rfl rfl (ho3.at 1 rfl)) rfl ⟨by rw [mixTo_all]; rfl, ho3.below⟩
end Go.Proofs.Ythhimlicaiifdaa
