/- Frames turned, mirrored, rolled: the program's own. -/
import Derived.Test.YthhimlicaiifdaaY2
set_option maxRecDepth 100000
set_option linter.unusedSimpArgs false
set_option linter.unusedVariables false
namespace Go.Proofs.Ythhimlicaiifdaa
open Go.RowKit Fb

/-- A frame and a code. -/
def RetF2 (f : Fr) (code : Int) (w : World) (e : Ending) (w' : World) : Prop := e = .returned (.tuple #[frV f, .int .i64 code]) ∧ Below w.heap.size w w'

theorem results26_two {fn : Func} {p q : Tmp} (h : fn.results = #[.cell p 26, .tmp q]) {tmps : Array Value} {w : World} {b : Nat} {f : Fr} {t : TypeId} {v : Value}
    (hp : tmps.getD p undef = .pointer (some ⟨b, 0, none⟩)) (hq : tmps.getD q undef = v) (hb : Blk w b (frC f) t) : (results fn tmps).run Try.prog w = .ok (.tuple #[frV f, v]) w := by
  have hp' : tmps[p]?.getD undef = .pointer (some ⟨b, 0, none⟩) := by simpa using hp
  have hq' : tmps[q]?.getD undef = v := by simpa using hq
  have h1 := run_loadVar_big under26 rfl info26 b 0 w
  rw [hb.row, rowIn_fr, loadK_some] at h1
  simp [results, h, hp', hq', asAddr, h1]

theorem where_at (g : FuncId) (caps : Array Value) (d : Int → Int → Bool) (w : World) (h : IsAt g caps d w) : Calls Try.prog 104 #[.func (.func g) #[] caps] w (RetB (frV (Fr.ofHas d)) w) := where_any g caps d w h

theorem turn1_any (f : Fr) (b : Nat) (t : TypeId) (w : World) (hB : Blk w b (frC f) t) : IsAt 107 #[.pointer (some ⟨b, 0, none⟩)] (fun x y => f.has y (11 - x)) w := by
  refine ⟨enters_of Try.func107 (by kernel_rfl) rfl, fun W x y hb hx hy => ?_⟩
  obtain ⟨f1, f2, f3, f4, f5, f6, f7⟩ := (hB.below hb).facts rfl
  go_enter Try.func107, Try.ntmps107
  go_wp2_with (go_at_call 108; refine (has_any f _ _ _).mono ?_; rintro e w1 ⟨rfl, hb1⟩)
  go_ret
  exact RetB.mk rfl hb1

theorem turn_bad (f : Fr) (w : World) (hk : f.ok = false) : Calls Try.prog 12 #[frV f] w (RetF2 Fr.zero 1 w) := by
  go_enter Try.func12, Try.ntmps12
  have ho : Own w [(frC f, 26), (frC Fr.zero, 26)] ((w.alloc (.cells (frC f) 26)).alloc (.cells (frC Fr.zero) 26)) := ((Own.start w).push rfl _ _).push (by simp) _ _
  go_wp2_with (go_at_call 20; refine (valid_any f _).mono ?_; rintro e w1 ⟨rfl, hb1⟩; have ho1 := ho.call hb1; obtain ⟨f1, f2, f3, f4, f5, f6, f7⟩ := (ho1.at 1 rfl).facts rfl)
  have ho2 := ho1.set' 1 rfl rfl (frC Fr.zero) rfl
  exact bodyPost_ret (results26_two rfl rfl rfl (ho2.at 1 rfl)) rfl ⟨rfl, ho2.below⟩

theorem turn_ok (f : Fr) (w : World) (hk : f.ok = true) : Calls Try.prog 12 #[frV f] w (RetF2 f.turn 0 w) := by
  go_enter Try.func12, Try.ntmps12
  have ho : Own w [(frC f, 26), (frC Fr.zero, 26)] ((w.alloc (.cells (frC f) 26)).alloc (.cells (frC Fr.zero) 26)) := ((Own.start w).push rfl _ _).push (by simp) _ _
  go_wp2_with (first | (go_at_call 20; refine (valid_any f _).mono ?_; rintro e w1 ⟨rfl, hb1⟩; have ho1 := ho.call hb1; obtain ⟨f1, f2, f3, f4, f5, f6, f7⟩ := (ho1.at 1 rfl).facts rfl) | (go_at_call 104; refine (where_at _ _ _ _ (turn1_any f w.heap.size _ _ ((ho1.at 0 rfl).facts' (Nat.add_zero _)))).mono ?_; rintro e w2 ⟨rfl, hb2⟩; have ho2 := ho1.call hb2; obtain ⟨k1, k2, k3, k4, k5, k6, k7⟩ := (ho2.at 1 rfl).facts rfl))
  have ho3 := ho2.set' 1 rfl rfl (frC f.turn) rfl
  exact bodyPost_ret (results26_two rfl rfl rfl (ho3.at 1 rfl)) rfl ⟨rfl, ho3.below⟩

theorem mirror1_any (f : Fr) (b : Nat) (t : TypeId) (w : World) (hB : Blk w b (frC f) t) : IsAt 112 #[.pointer (some ⟨b, 0, none⟩)] (fun x y => f.has (11 - x) y) w := by
  refine ⟨enters_of Try.func112 (by kernel_rfl) rfl, fun W x y hb hx hy => ?_⟩
  obtain ⟨f1, f2, f3, f4, f5, f6, f7⟩ := (hB.below hb).facts rfl
  go_enter Try.func112, Try.ntmps112
  go_wp2_with (go_at_call 108; refine (has_any f _ _ _).mono ?_; rintro e w1 ⟨rfl, hb1⟩)
  go_ret
  exact RetB.mk rfl hb1

theorem mirror_ok (f : Fr) (w : World) (hk : f.ok = true) : Calls Try.prog 14 #[frV f] w (RetF2 f.mirror 0 w) := by
  go_enter Try.func14, Try.ntmps14
  have ho : Own w [(frC f, 26), (frC Fr.zero, 26)] ((w.alloc (.cells (frC f) 26)).alloc (.cells (frC Fr.zero) 26)) := ((Own.start w).push rfl _ _).push (by simp) _ _
  go_wp2_with (first | (go_at_call 20; refine (valid_any f _).mono ?_; rintro e w1 ⟨rfl, hb1⟩; have ho1 := ho.call hb1; obtain ⟨f1, f2, f3, f4, f5, f6, f7⟩ := (ho1.at 1 rfl).facts rfl) | (go_at_call 104; refine (where_at _ _ _ _ (mirror1_any f w.heap.size _ _ ((ho1.at 0 rfl).facts' (Nat.add_zero _)))).mono ?_; rintro e w2 ⟨rfl, hb2⟩; have ho2 := ho1.call hb2; obtain ⟨k1, k2, k3, k4, k5, k6, k7⟩ := (ho2.at 1 rfl).facts rfl))
  have ho3 := ho2.set' 1 rfl rfl (frC f.mirror) rfl
  exact bodyPost_ret (results26_two rfl rfl rfl (ho3.at 1 rfl)) rfl ⟨rfl, ho3.below⟩

theorem roll1_any (f : Fr) (b b1 b2 : Nat) (t t1 t2 : TypeId) (e s : Int) (w : World) (hB : Blk w b (frC f) t) (hB1 : Blk w b1 #[.int .i64 e] t1) (hB2 : Blk w b2 #[.int .i64 s] t2) (he : -12 ≤ e ∧ e ≤ 12) (hs : -12 ≤ s ∧ s ≤ 12) :
    IsAt 119 #[.pointer (some ⟨b, 0, none⟩), .pointer (some ⟨b1, 0, none⟩), .pointer (some ⟨b2, 0, none⟩)] (fun x y => f.has ((x - e + 24) % 12) ((y - s + 24) % 12)) w := by
  refine ⟨enters_of Try.func119 (by kernel_rfl) rfl, fun W x y hb hx hy => ?_⟩
  obtain ⟨f1, f2, f3, f4, f5, f6, f7⟩ := (hB.below hb).facts rfl
  have g1 := (hB1.below hb).cell 0
  have g2 := (hB2.below hb).cell 0
  simp only [List.getElem?_toArray, List.getElem?_cons_zero] at g1 g2
  have q1 : (0 : Int) ≤ (x : Int) - e + 24 := by omega
  have q2 : (0 : Int) ≤ (y : Int) - s + 24 := by omega
  go_enter Try.func119, Try.ntmps119
  go_wp2_with (go_at_call 108; refine (has_any f _ _ _).mono ?_; rintro e w1 ⟨rfl, hb1⟩)
  go_ret
  exact RetB.mk rfl hb1

theorem checkMove_ok (f : Fr) (e s : Int) (w : World) (hk : f.ok = true) (he : -12 ≤ e ∧ e ≤ 12) (hs : -12 ≤ s ∧ s ≤ 12) : Calls Try.prog 118 #[frV f, .int .i64 e, .int .i64 s] w (RetB (.int .i64 0) w) := by
  have h1 := inR_t he.1 he.2
  have h2 := inR_t hs.1 hs.2
  have ho : Own w [(frC f, 26)] (w.alloc (.cells (frC f) 26)) := (Own.start w).push rfl _ _
  go_enter Try.func118, Try.ntmps118
  go_wp2_with (first | (go_at_call 20; refine (valid_any f _).mono ?_; rintro e w1 ⟨rfl, hb1⟩) | (go_at_call 145; refine (inRange_any _ _ _ _).mono ?_; rintro e w' ⟨rfl, rfl⟩))
  go_ret
  exact RetB.mk rfl (ho.call hb1).below

theorem roll_ok (f : Fr) (e s : Int) (w : World) (hk : f.ok = true) (he : -12 ≤ e ∧ e ≤ 12) (hs : -12 ≤ s ∧ s ≤ 12) : Calls Try.prog 22 #[frV f, .int .i64 e, .int .i64 s] w (RetF2 (f.roll e s) 0 w) := by
  go_enter Try.func22, Try.ntmps22
  have ho : Own w [(frC f, 26), (#[.int .i64 e], 2), (#[.int .i64 s], 2), (frC Fr.zero, 26)] ((((w.alloc (.cells (frC f) 26)).alloc (.cells #[.int .i64 e] 2)).alloc (.cells #[.int .i64 s] 2)).alloc (.cells (frC Fr.zero) 26)) := ((((Own.start w).push rfl _ _).push (by simp) _ _).push (by simp) _ _).push (by simp) _ _
  go_wp2_with (first | (go_at_call 118; refine (checkMove_ok f e s _ hk he hs).mono ?_; rintro en w1 ⟨rfl, hb1⟩; have ho1 := ho.call hb1) | (go_at_call 104; refine (where_at _ _ _ _ (roll1_any f w.heap.size (w.heap.size + 1) (w.heap.size + 1 + 1) _ _ _ e s _ ((ho1.at 0 rfl).facts' (Nat.add_zero _)) (ho1.at 1 rfl) (ho1.at 2 rfl) he hs)).mono ?_; rintro en w2 ⟨rfl, hb2⟩; have ho2 := ho1.call hb2; obtain ⟨k1, k2, k3, k4, k5, k6, k7⟩ := (ho2.at 3 rfl).facts (show _ = w.heap.size + 1 + 1 + 1 from rfl)))
  have ho3 := ho2.set' 3 rfl rfl (frC (f.roll e s)) rfl
  exact bodyPost_ret (results26_two rfl rfl rfl (ho3.at 3 rfl)) rfl ⟨rfl, ho3.below⟩

theorem move_ok (f : Fr) (e s : Int) (w : World) (hk : f.ok = true) (he : -12 ≤ e ∧ e ≤ 12) (hs : -12 ≤ s ∧ s ≤ 12) : Calls Try.prog 24 #[frV f, .int .i64 e, .int .i64 s] w (RetF2 (f.mv e s) 0 w) := by
  have hS := Lib.hid (Fr.slid_eq hk e s)
  go_enter Try.func24, Try.ntmps24
  have ho : Own w [(frC f, 26), (frC Fr.zero, 26)] ((w.alloc (.cells (frC f) 26)).alloc (.cells (frC Fr.zero) 26)) := ((Own.start w).push rfl _ _).push (by simp) _ _
  go_wp2_with (first | (go_at_call 118; refine (checkMove_ok f e s _ hk he hs).mono ?_; rintro en w1 ⟨rfl, hb1⟩; have ho1 := ho.call hb1; obtain ⟨f1, f2, f3, f4, f5, f6, f7⟩ := (ho1.at 0 rfl).facts (Nat.add_zero _)) | (go_at_call 121; refine (moved_in f e s _ he (by omega)).mono ?_; rintro en w2 ⟨rfl, hb2⟩; have ho2 := ho1.call hb2; obtain ⟨k1, k2, k3, k4, k5, k6, k7⟩ := (ho2.at 1 rfl).facts rfl))
  have ho3 := ho2.set' 1 rfl rfl (frC (f.slid e s)) rfl
  exact bodyPost_ret (results26_two rfl rfl rfl (ho3.at 1 rfl)) rfl ⟨by rw [hS.out]; rfl, ho3.below⟩

/-! ### Two frames, row by row -/
structure IsMix (g : FuncId) (op : Row → Row → Row) : Prop where
  ent : ∀ args W, (callFunc g args).run Try.prog W = .ok (.enter g args) W
  gives : ∀ (W : World) (a b : Row), Calls Try.prog g #[.int .u16 (rowI a), .int .u16 (rowI b)] W (RetQ (.int .u16 (rowI (op a b))) W)
theorem join1_mix : IsMix 210 (fun a b => a ||| b) := by
  refine ⟨enters_of Try.func210 (by kernel_rfl) rfl, fun W a b => ?_⟩
  go_enter Try.func210, Try.ntmps210
  go_wp2
  go_ret
  exact RetQ.mk rfl
theorem meet1_mix : IsMix 211 (fun a b => a &&& b) := by
  refine ⟨enters_of Try.func211 (by kernel_rfl) rfl, fun W a b => ?_⟩
  go_enter Try.func211, Try.ntmps211
  go_wp2
  go_ret
  exact RetQ.mk rfl
theorem less1_mix : IsMix 209 (fun a b => a &&& ~~~b) := by
  refine ⟨enters_of Try.func209 (by kernel_rfl) rfl, fun W a b => ?_⟩
  go_enter Try.func209, Try.ntmps209
  go_wp2
  go_ret
  exact RetQ.mk rfl
theorem differ1_mix : IsMix 241 (fun a b => a ^^^ b) := by
  refine ⟨enters_of Try.func241 (by kernel_rfl) rfl, fun W a b => ?_⟩
  go_enter Try.func241, Try.ntmps241
  go_wp2
  go_ret
  exact RetQ.mk rfl
theorem invert1_mix : IsMix 115 (fun a _ => 4095 &&& ~~~a) := by
  refine ⟨enters_of Try.func115 (by kernel_rfl) rfl, fun W a b => ?_⟩
  go_enter Try.func115, Try.ntmps115
  go_wp2
  go_ret
  exact RetQ.mk rfl

/-- The rows before k made anew. -/
def mixTo (op : Row → Row → Row) (f g : Fr) (k : Nat) : Fr := Fr.gen fun y => if y < k then op (f.row y) (g.row y) else f.row y
theorem mixTo_zero (op : Row → Row → Row) (f g : Fr) : mixTo op f g 0 = f := Fr.ext_row fun y hy => by unfold mixTo; rw [Fr.row_gen_lt _ hy]; rfl
theorem mixTo_all (op : Row → Row → Row) (f g : Fr) : mixTo op f g 12 = Fr.map2 op f g := Fr.ext_row fun y hy => by unfold mixTo Fr.map2; rw [Fr.row_gen_lt _ hy, Fr.row_gen_lt _ hy, if_pos hy]
theorem mixTo_succ (op : Row → Row → Row) (f g : Fr) (k : Nat) (hk : k < 12) : (mixTo op f g k).set k (op (f.row k) (g.row k)) = mixTo op f g (k + 1) := Fr.ext_row fun y hy => by
  rw [Fr.row_set _ _ _ _ hk]
  unfold mixTo
  rw [Fr.row_gen_lt _ hy, Fr.row_gen_lt _ hy]
  by_cases h1 : y = k
  · subst h1; rw [if_pos rfl, if_pos (by omega)]
  · rw [if_neg h1]
    by_cases h2 : y < k
    · rw [if_pos h2, if_pos (by omega)]
    · rw [if_neg h2, if_neg (by omega)]

set_option maxHeartbeats 400000 in
theorem mix_any (g : FuncId) (op : Row → Row → Row) (h : IsMix g op) (f f' : Fr) (w : World) : Calls Try.prog 114 #[frV f, frV f', .func (.func g) #[] #[]] w (RetB (frV (Fr.map2 op f f')) w) := by
  have eg := h.ent
  go_enter Try.func114, Try.ntmps114
  go_wp2
  go_loopw [10] (fun t wr => ∃ k : Nat, k ≤ 12 ∧ t = .int .i64 k ∧ Own w [(frC (mixTo op f f' k), 26), (frC f', 26), (frC Fr.zero, 26)] wr) (fun t _ => 12 - (intOf t).toNat)
  case atStart => exact ⟨0, by omega, rfl, by rw [mixTo_zero]; exact (((Own.start w).push rfl _ _).push (by simp) _ _).push (by simp) _ _⟩
  case round =>
    obtain ⟨k, hk, rfl, ho⟩ := hrel
    obtain ⟨f1, f2, f3, f4, f5, f6, f7⟩ := (ho.at 0 rfl).facts (Nat.add_zero _)
    obtain ⟨k1, k2, k3, k4, k5, k6, k7⟩ := (ho.at 1 rfl).facts rfl
    by_cases hlt : k < 12
    · have hS := Lib.hid (mixTo_succ op f f' k hlt)
      go_wp2_with (go_at_fn g; refine (h.gives _ (f.row k) (f'.row k)).mono ?_; rintro e w1 ⟨rfl, rfl⟩)
      go_roundw
      case rel => exact ⟨k + 1, by omega, by go_num, by rw [← hS.out]; exact ho.set' 0 rfl (Nat.add_zero _).symm _ rfl⟩
      case measure => simp [intOf]; omega
    · obtain rfl : k = 12 := by omega
      obtain ⟨q1, q2, q3, q4, q5, q6, q7⟩ := (ho.at 2 rfl).facts (show _ = w.heap.size + 1 + 1 from rfl)
      go_wp2
      have ho2 := ho.set' 2 rfl (show w.heap.size + 1 + 1 = w.heap.size + 2 from rfl) (frC (mixTo op f f' 12)) rfl
      exact bodyPost_ret (results26_blk rfl rfl (ho2.at 2 rfl)) rfl (RetB.mk (by rw [mixTo_all]) ho2.below)

theorem join_any (f f' : Fr) (w : World) : Calls Try.prog 126 #[frV f, frV f'] w (RetB (frV (f.join f')) w) := by
  have ho : Own w [(frC f, 26), (frC f', 26), (frC Fr.zero, 26)] (((w.alloc (.cells (frC f) 26)).alloc (.cells (frC f') 26)).alloc (.cells (frC Fr.zero) 26)) := (((Own.start w).push rfl _ _).push (by simp) _ _).push (by simp) _ _
  go_enter Try.func126, Try.ntmps126
  go_wp2_with (go_at_call 114; refine (mix_any _ _ join1_mix _ _ _).mono ?_; rintro en w1 ⟨rfl, hb1⟩; have ho1 := ho.call hb1; obtain ⟨k1, k2, k3, k4, k5, k6, k7⟩ := (ho1.at 2 rfl).facts (show _ = w.heap.size + 1 + 1 from rfl))
  have ho2 := ho1.set' 2 rfl (show w.heap.size + 1 + 1 = w.heap.size + 2 from rfl) (frC (f.join f')) rfl
  exact bodyPost_ret (results26_blk rfl rfl (ho2.at 2 rfl)) rfl (RetB.mk rfl ho2.below)

theorem meet_any (f f' : Fr) (w : World) : Calls Try.prog 127 #[frV f, frV f'] w (RetB (frV (f.meet f')) w) := by
  have ho : Own w [(frC f, 26), (frC f', 26), (frC Fr.zero, 26)] (((w.alloc (.cells (frC f) 26)).alloc (.cells (frC f') 26)).alloc (.cells (frC Fr.zero) 26)) := (((Own.start w).push rfl _ _).push (by simp) _ _).push (by simp) _ _
  go_enter Try.func127, Try.ntmps127
  go_wp2_with (go_at_call 114; refine (mix_any _ _ meet1_mix _ _ _).mono ?_; rintro en w1 ⟨rfl, hb1⟩; have ho1 := ho.call hb1; obtain ⟨k1, k2, k3, k4, k5, k6, k7⟩ := (ho1.at 2 rfl).facts (show _ = w.heap.size + 1 + 1 from rfl))
  have ho2 := ho1.set' 2 rfl (show w.heap.size + 1 + 1 = w.heap.size + 2 from rfl) (frC (f.meet f')) rfl
  exact bodyPost_ret (results26_blk rfl rfl (ho2.at 2 rfl)) rfl (RetB.mk rfl ho2.below)

theorem less_any (f f' : Fr) (w : World) : Calls Try.prog 125 #[frV f, frV f'] w (RetB (frV (f.less f')) w) := by
  have ho : Own w [(frC f, 26), (frC f', 26), (frC Fr.zero, 26)] (((w.alloc (.cells (frC f) 26)).alloc (.cells (frC f') 26)).alloc (.cells (frC Fr.zero) 26)) := (((Own.start w).push rfl _ _).push (by simp) _ _).push (by simp) _ _
  go_enter Try.func125, Try.ntmps125
  go_wp2_with (go_at_call 114; refine (mix_any _ _ less1_mix _ _ _).mono ?_; rintro en w1 ⟨rfl, hb1⟩; have ho1 := ho.call hb1; obtain ⟨k1, k2, k3, k4, k5, k6, k7⟩ := (ho1.at 2 rfl).facts (show _ = w.heap.size + 1 + 1 from rfl))
  have ho2 := ho1.set' 2 rfl (show w.heap.size + 1 + 1 = w.heap.size + 2 from rfl) (frC (f.less f')) rfl
  exact bodyPost_ret (results26_blk rfl rfl (ho2.at 2 rfl)) rfl (RetB.mk rfl ho2.below)

theorem differ_any (f f' : Fr) (w : World) : Calls Try.prog 212 #[frV f, frV f'] w (RetB (frV (f.differ f')) w) := by
  have ho : Own w [(frC f, 26), (frC f', 26), (frC Fr.zero, 26)] (((w.alloc (.cells (frC f) 26)).alloc (.cells (frC f') 26)).alloc (.cells (frC Fr.zero) 26)) := (((Own.start w).push rfl _ _).push (by simp) _ _).push (by simp) _ _
  go_enter Try.func212, Try.ntmps212
  go_wp2_with (go_at_call 114; refine (mix_any _ _ differ1_mix _ _ _).mono ?_; rintro en w1 ⟨rfl, hb1⟩; have ho1 := ho.call hb1; obtain ⟨k1, k2, k3, k4, k5, k6, k7⟩ := (ho1.at 2 rfl).facts (show _ = w.heap.size + 1 + 1 from rfl))
  have ho2 := ho1.set' 2 rfl (show w.heap.size + 1 + 1 = w.heap.size + 2 from rfl) (frC (f.differ f')) rfl
  exact bodyPost_ret (results26_blk rfl rfl (ho2.at 2 rfl)) rfl (RetB.mk rfl ho2.below)
end Go.Proofs.Ythhimlicaiifdaa
