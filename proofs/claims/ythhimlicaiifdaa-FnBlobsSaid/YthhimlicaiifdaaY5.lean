/- Frames: flipped; several frames; what the program returns of frames that are valid. -/
import Derived.Test.YthhimlicaiifdaaY4
set_option maxRecDepth 100000
set_option linter.unusedSimpArgs false
set_option linter.unusedVariables false
namespace Go.Proofs.Ythhimlicaiifdaa
open Go.RowKit Fb

/-- The first k rows, and the last k ones, exchanged. -/
def flipTo (f : Fr) (k : Nat) : Fr := Fr.gen fun y => if y < k ∨ 11 - k < y then f.row (11 - y) else f.row y
theorem flipTo_zero (f : Fr) : flipTo f 0 = f := Fr.ext_row fun y hy => by unfold flipTo; rw [Fr.row_gen_lt _ hy, if_neg (by omega)]
theorem flipTo_all (f : Fr) : flipTo f 6 = f.flip := Fr.ext_row fun y hy => by
  unfold flipTo Fr.flip
  rw [Fr.row_gen_lt _ hy, Fr.row_gen_lt _ hy, if_pos (by omega)]
theorem flipTo_step (f : Fr) (k : Nat) (hk : k < 6) : ((flipTo f k).set k ((flipTo f k).row (11 - k))).set (11 - k) ((flipTo f k).row k) = flipTo f (k + 1) := Fr.ext_row fun y hy => by
  rw [Fr.row_set _ _ _ _ (by omega), Fr.row_set _ _ _ _ (by omega)]
  unfold flipTo
  rw [Fr.row_gen_lt _ hy, Fr.row_gen_lt _ hy, Fr.row_gen_lt _ (by omega), Fr.row_gen_lt _ (by omega)]
  by_cases h1 : y = 11 - k
  · subst h1
    rw [if_pos rfl, if_neg (by omega), if_pos (by omega)]
    congr 1; omega
  · rw [if_neg h1]
    by_cases h2 : y = k
    · subst h2; rw [if_pos rfl, if_neg (by omega), if_pos (by omega)]
    · rw [if_neg h2]
      by_cases h3 : y < k ∨ 11 - k < y
      · rw [if_pos h3, if_pos (by omega)]
      · rw [if_neg h3, if_neg (by omega)]

set_option maxHeartbeats 1000000 in
theorem reverse_any (f : Fr) (b : Nat) (t : TypeId) (w : World) (hB : Blk w b (frC f) t) : Calls Try.prog 113 #[.slice (some ⟨b, 0, none⟩) 12 12] w (fun e w' => e = .returned (.tuple #[]) ∧ Upd w b (frC f.flip) w') := by
  go_enter Try.func113, Try.ntmps113
  go_wp2
  go_loopw [2, 3] (fun s t wr => ∃ k j : Nat, k + j = 11 ∧ k ≤ 6 ∧ s = .int .i64 k ∧ t = .int .i64 j ∧ Upd w b (frC (flipTo f k)) wr) (fun s _ _ => 12 - (intOf s).toNat)
  case atStart => exact ⟨0, 11, rfl, by omega, rfl, rfl, by rw [flipTo_zero]; exact Upd.start hB⟩
  case round =>
    obtain ⟨k, j, hkj, hk, rfl, rfl, ho⟩ := hrel
    have hJ := Lib.hid hkj
    have hj1 : j ≤ 11 := by omega
    by_cases hlt : k < 6
    · have hS := Lib.hid (flipTo_step f k hlt)
      have hlt2 : k < j := by omega
      have p1 : k < 12 := by omega
      have p2 : j < 12 := by omega
      have q1 : (k : Int) < 12 := by omega
      have q2 : (j : Int) < 12 := by omega
      have q3 : (1 : Int) ≤ j := by omega
      obtain ⟨f1, f2, f3, f4, f5, f6, f7⟩ := (ho.blk hB).facts rfl
      obtain ⟨g1, g2, g3, g4, g5, g6⟩ := (ho.blk hB).facts2 rfl
      clear hkj
      go_wp2
      go_region
      all_goals go_wp2
      have hj : j = 11 - k := by have := hJ.out; omega
      exact ⟨⟨k + 1, j - 1, by have := hJ.out; omega, by omega, by go_num, congrArg (Value.int .i64) (by omega), by rw [← hS.out, ← hj]; exact (ho.set _).drew⟩, by simp [intOf]; omega⟩
    · have hk6 : k = 6 := by omega
      subst hk6
      have hj5 : j = 5 := by omega
      subst hj5
      clear hkj
      go_wp2
      go_end0
      exact ⟨rfl, by rw [← flipTo_all]; exact ho⟩

theorem flip_ok (f : Fr) (w : World) (hk : f.ok = true) : Calls Try.prog 16 #[frV f] w (RetF2 f.flip 0 w) := by
  have ho : Own w [(frC f, 26), (frC Fr.zero, 26)] ((w.alloc (.cells (frC f) 26)).alloc (.cells (frC Fr.zero) 26)) := ((Own.start w).push rfl _ _).push (by simp) _ _
  go_enter Try.func16, Try.ntmps16
  go_wp2_with (first | (go_at_call 20; refine (valid_any f _).mono ?_; rintro e w1 ⟨rfl, hb1⟩; have ho1 := ho.call hb1; obtain ⟨f1, f2, f3, f4, f5, f6, f7⟩ := (ho1.at 0 rfl).facts (Nat.add_zero _)) | (go_at_call 113; refine (reverse_any f _ _ _ ((ho1.at 0 rfl).facts' (Nat.add_zero _))).mono ?_; rintro e w2 ⟨rfl, hu2⟩; have ho2 := Own.upd ho1 0 rfl rfl hu2 rfl; obtain ⟨k1, k2, k3, k4, k5, k6, k7⟩ := (ho2.at 0 rfl).facts (Nat.add_zero _); obtain ⟨q1, q2, q3, q4, q5, q6, q7⟩ := (ho2.at 1 rfl).facts rfl))
  have ho3 := ho2.set' 1 rfl rfl (frC f.flip) rfl
  exact bodyPost_ret (results26_two rfl rfl rfl (ho3.at 1 rfl)) rfl ⟨rfl, ho3.below⟩

/-! ### Several frames -/
/-- The first index at which p holds, -1 if there is none. -/
def idxI {α : Type} (p : α → Bool) (xs : List α) : Int := match xs.findIdx? p with | some i => i | none => -1
theorem idxI_at {α : Type} {p : α → Bool} {xs : List α} {k : Nat} {x : α} (hx : xs[k]? = some x) (hp : p x = true) (hn : ∀ (i : Nat) (y : α), i < k → xs[i]? = some y → p y = false) : idxI p xs = k := by
  unfold idxI
  have hk := (List.getElem?_eq_some_iff.1 hx).1
  have : xs.findIdx? p = some k := by
    rw [List.findIdx?_eq_some_iff_getElem]
    refine ⟨hk, ?_, fun j hj => ?_⟩
    · have := (List.getElem?_eq_some_iff.1 hx).2; rw [this]; exact hp
    · have h1 : j < xs.length := by omega
      have := hn j xs[j] hj (List.getElem?_eq_getElem h1)
      simp [this]
  rw [this]
theorem idxI_none {α : Type} {p : α → Bool} {xs : List α} (hn : ∀ (i : Nat) (y : α), xs[i]? = some y → p y = false) : idxI p xs = -1 := by
  unfold idxI
  have : xs.findIdx? p = none := by
    rw [List.findIdx?_eq_none_iff]
    intro x hx
    obtain ⟨i, hi⟩ := List.getElem?_of_mem hx
    exact hn i x hi
  rw [this]
theorem idxI_ge {α : Type} (p : α → Bool) (xs : List α) : decide (0 ≤ idxI p xs) = xs.any p := by
  unfold idxI
  cases h : xs.findIdx? p with
  | none =>
    rw [List.findIdx?_eq_none_iff] at h
    have : xs.any p = false := by rw [List.any_eq_false]; intro x hx; simp [h x hx]
    rw [this]; rfl
  | some i =>
    rw [List.findIdx?_eq_some_iff_getElem] at h
    obtain ⟨hi, hp, _⟩ := h
    have : xs.any p = true := by rw [List.any_eq_true]; exact ⟨xs[i], List.getElem_mem hi, hp⟩
    rw [this]; simp

/-- A function value that tells of a frame. -/
structure IsPredF (g : FuncId) (caps : Array Value) (p : Fr → Bool) (w : World) : Prop where
  ent : ∀ args W, (callFunc g args).run Try.prog W = .ok (.enter g args) W
  gives : ∀ (W : World) (f : Fr), Below w.heap.size w W → Calls Try.prog g (#[frV f] ++ caps) W (RetB (.bool (p f)) W)

set_option maxHeartbeats 1000000 in
theorem indexFr_some (g : FuncId) (caps : Array Value) (p : Fr → Bool) (xs : List Fr) (b o c : Nat) (w : World) (h : IsPredF g caps p w) (hl : xs.length ≤ 9223372036854775807) (hc : ∀ i x, xs[i]? = some x → ∀ j u, (frE x)[j]? = some u → w.cell? ⟨b, o + i * 12 + j, none⟩ = some u) :
    Calls Try.prog 194 #[.slice (some ⟨b, o, none⟩) xs.length c, .func (.func g) #[] caps] w (RetB (.int .i64 (idxI p xs)) w) := by
  have eg := h.ent
  go_enter Try.func194, Try.ntmps194
  go_wp2
  go_loopw [8] (fun t wr => ∃ k : Nat, k ≤ xs.length ∧ t = .int .i64 k ∧ Own w [] wr ∧ ∀ i y, i < k → xs[i]? = some y → p y = false) (fun t _ => xs.length - (intOf t).toNat)
  case atStart => exact ⟨0, by omega, rfl, Own.start w, fun i y hi => by omega⟩
  case round =>
    obtain ⟨k, hk, rfl, ho, hn⟩ := hrel
    have HN := Lib.hid hn
    clear hn
    by_cases hlt : k < xs.length
    · obtain ⟨f, hf⟩ : ∃ f, xs[k]? = some f := ⟨_, List.getElem?_eq_getElem hlt⟩
      have hr := ((Reads.frAt (n := 0) (c := 0) hc hf).below ho.below).row?
      have HF := Lib.hid hf
      clear hf
      cases hp : p f with
      | true =>
        have HP := Lib.hid hp
        go_wp2_with (go_at_fn g; refine (h.gives _ f ho.below).mono ?_; rintro e w1 ⟨rfl, hb1⟩)
        go_ret
        exact RetB.mk (by rw [idxI_at HF.out HP.out HN.out]; rfl) (ho.call hb1).below
      | false =>
        have HP := Lib.hid hp
        go_wp2_with (go_at_fn g; refine (h.gives _ f ho.below).mono ?_; rintro e w1 ⟨rfl, hb1⟩)
        go_roundw
        case rel =>
          refine ⟨k + 1, by omega, by go_num, ho.call hb1, fun i y hi hy => ?_⟩
          by_cases e : i = k
          · subst e; rw [HF.out] at hy; cases hy; exact HP.out
          · exact HN.out i y (by omega) hy
        case measure => simp [intOf]; omega
    · obtain rfl : k = xs.length := by omega
      go_wp2
      go_ret
      exact RetB.mk (by rw [idxI_none (fun i y hy => HN.out i y (List.getElem?_eq_some_iff.1 hy).1 hy)]; rfl) ho.below

theorem indexFr_none (g : FuncId) (caps : Array Value) (p : Fr → Bool) (A : Option Addr) (c : Nat) (w : World) (h : IsPredF g caps p w) :
    Calls Try.prog 194 #[.slice A 0 c, .func (.func g) #[] caps] w (RetB (.int .i64 (idxI p [])) w) := by
  have eg := h.ent
  go_enter Try.func194, Try.ntmps194
  go_wp2
  go_loop [8] (fun t => t = .int .i64 0) (fun t => 0)
  case atStart => rfl
  case round =>
    subst hrel
    go_wp2
    go_ret
    exact RetB.mk rfl (Below.refl _ _)

theorem indexFr_any (g : FuncId) (caps : Array Value) (p : Fr → Bool) (v : Value) (xs : List Fr) (w : World) (h : IsPredF g caps p w) (hr : Reads w frE 12 v xs) :
    Calls Try.prog 194 #[v, .func (.func g) #[] caps] w (RetB (.int .i64 (idxI p xs)) w) := by
  obtain ⟨A, c, rfl, h1, h2, h3⟩ := hr
  by_cases hn : xs = []
  · subst hn; exact indexFr_none g caps p A c w h
  · obtain ⟨b, o, rfl, hc⟩ := h3 hn
    exact indexFr_some g caps p xs b o c w h (by omega) hc

theorem containsFr_any (g : FuncId) (caps : Array Value) (p : Fr → Bool) (v : Value) (xs : List Fr) (w : World) (h : IsPredF g caps p w) (hr : Reads w frE 12 v xs) :
    Calls Try.prog 207 #[v, .func (.func g) #[] caps] w (RetB (.bool (xs.any p)) w) := by
  have hI := idxI_ge p xs
  go_enter Try.func207, Try.ntmps207
  go_wp2_with (go_at_call 194; refine (indexFr_any g caps p v xs _ h hr).mono ?_; rintro e w1 ⟨rfl, hb1⟩)
  go_ret
  exact RetB.mk rfl hb1

theorem areFrames1 (w : World) : IsPredF 208 #[] (fun f => !f.ok) w := by
  refine ⟨enters_of Try.func208 (by kernel_rfl) rfl, fun W f hb => ?_⟩
  have ho : Own W [(frC f, 26)] (W.alloc (.cells (frC f) 26)) := (Own.start W).push rfl _ _
  go_enter Try.func208, Try.ntmps208
  go_wp2_with (go_at_call 20; refine (valid_any f _).mono ?_; rintro e w1 ⟨rfl, hb1⟩)
  go_ret
  exact RetB.mk rfl (ho.call hb1).below

def allOk (xs : List Fr) : Bool := xs.all Fr.ok
theorem allOk_eq (xs : List Fr) : (!xs.any fun f => !f.ok) = allOk xs := by
  unfold allOk
  rw [List.not_any_eq_all_not]
  simp
theorem areFrames_any (v : Value) (xs : List Fr) (w : World) (hr : Reads w frE 12 v xs) : Calls Try.prog 124 #[v] w (RetB (.bool (allOk xs)) w) := by
  have hH := Lib.hid (allOk_eq xs)
  go_enter Try.func124, Try.ntmps124
  go_wp2_with (go_at_call 207; refine (containsFr_any _ #[] _ v xs _ (areFrames1 _) hr).mono ?_; rintro e w1 ⟨rfl, hb1⟩)
  go_ret
  exact RetB.mk (by rw [← hH.out]; rfl) hb1

theorem reads_pair {w : World} {b : Nat} {t : TypeId} (f g : Fr) (h : Blk w b (frC f ++ frC g) t) : Reads w frE 12 (.slice (some ⟨b, 0, none⟩) 2 2) [f, g] := by
  refine ⟨_, 2, rfl, by simp, by omega, fun _ => ⟨b, 0, rfl, fun i x hx j u hu => ?_⟩⟩
  have hj : j < 12 := by rw [← frE_len x]; exact (List.getElem?_eq_some_iff.1 hu).1
  unfold frE at hu
  rw [Array.getElem?_toList] at hu
  rw [h.cell, Array.getElem?_append, frC_size]
  match i, hx with
  | 0, hx =>
    simp at hx; subst hx
    rw [if_pos (by omega)]
    rw [show 0 + 0 * 12 + j = j by omega]; exact hu
  | 1, hx =>
    simp at hx; subst hx
    rw [if_neg (by omega), show 0 + 1 * 12 + j - 12 = j by omega]; exact hu
  | i + 2, hx => simp at hx

theorem pair_ok {f g : Fr} (hf : f.ok = true) (hg : g.ok = true) : allOk [f, g] = true := by simp [allOk, hf, hg]

theorem join_ok (f g : Fr) (w : World) (hf : f.ok = true) (hg : g.ok = true) : Calls Try.prog 28 #[frV f, frV g] w (RetF2 (f.join g) 0 w) := by
  have hk := pair_ok hf hg
  have ho : Own w [(frC f, 26), (frC g, 26), (frC Fr.zero, 26), (frC f ++ frC g, 26)] ((((w.alloc (.cells (frC f) 26)).alloc (.cells (frC g) 26)).alloc (.cells (frC Fr.zero) 26)).alloc (.cells (frC f ++ frC g) 26)) := ((((Own.start w).push rfl _ _).push (by simp) _ _).push (by simp) _ _).push (by simp) _ _
  go_enter Try.func28, Try.ntmps28
  go_wp2_with (first | (go_at_call 124; refine (areFrames_any _ [f, g] _ (reads_pair f g (ho.at 3 rfl))).mono ?_; rintro e w1 ⟨rfl, hb1⟩; have ho1 := ho.call hb1; obtain ⟨f1, f2, f3, f4, f5, f6, f7⟩ := (ho1.at 0 rfl).facts (Nat.add_zero _); obtain ⟨g1, g2, g3, g4, g5, g6, g7⟩ := (ho1.at 1 rfl).facts rfl) | (go_at_call 126; refine (join_any f g _).mono ?_; rintro e w2 ⟨rfl, hb2⟩; have ho2 := ho1.call hb2; obtain ⟨k1, k2, k3, k4, k5, k6, k7⟩ := (ho2.at 2 rfl).facts (show _ = w.heap.size + 1 + 1 from rfl)))
  have ho3 := ho2.set' 2 rfl (show w.heap.size + 1 + 1 = w.heap.size + 2 from rfl) (frC (f.join g)) rfl
  exact bodyPost_ret (results26_two rfl rfl rfl (ho3.at 2 rfl)) rfl ⟨rfl, ho3.below⟩

theorem meet_ok (f g : Fr) (w : World) (hf : f.ok = true) (hg : g.ok = true) : Calls Try.prog 29 #[frV f, frV g] w (RetF2 (f.meet g) 0 w) := by
  have hk := pair_ok hf hg
  have ho : Own w [(frC f, 26), (frC g, 26), (frC Fr.zero, 26), (frC f ++ frC g, 26)] ((((w.alloc (.cells (frC f) 26)).alloc (.cells (frC g) 26)).alloc (.cells (frC Fr.zero) 26)).alloc (.cells (frC f ++ frC g) 26)) := ((((Own.start w).push rfl _ _).push (by simp) _ _).push (by simp) _ _).push (by simp) _ _
  go_enter Try.func29, Try.ntmps29
  go_wp2_with (first | (go_at_call 124; refine (areFrames_any _ [f, g] _ (reads_pair f g (ho.at 3 rfl))).mono ?_; rintro e w1 ⟨rfl, hb1⟩; have ho1 := ho.call hb1; obtain ⟨f1, f2, f3, f4, f5, f6, f7⟩ := (ho1.at 0 rfl).facts (Nat.add_zero _); obtain ⟨g1, g2, g3, g4, g5, g6, g7⟩ := (ho1.at 1 rfl).facts rfl) | (go_at_call 127; refine (meet_any f g _).mono ?_; rintro e w2 ⟨rfl, hb2⟩; have ho2 := ho1.call hb2; obtain ⟨k1, k2, k3, k4, k5, k6, k7⟩ := (ho2.at 2 rfl).facts (show _ = w.heap.size + 1 + 1 from rfl)))
  have ho3 := ho2.set' 2 rfl (show w.heap.size + 1 + 1 = w.heap.size + 2 from rfl) (frC (f.meet g)) rfl
  exact bodyPost_ret (results26_two rfl rfl rfl (ho3.at 2 rfl)) rfl ⟨rfl, ho3.below⟩

theorem less_ok (f g : Fr) (w : World) (hf : f.ok = true) (hg : g.ok = true) : Calls Try.prog 27 #[frV f, frV g] w (RetF2 (f.less g) 0 w) := by
  have hk := pair_ok hf hg
  have ho : Own w [(frC f, 26), (frC g, 26), (frC Fr.zero, 26), (frC f ++ frC g, 26)] ((((w.alloc (.cells (frC f) 26)).alloc (.cells (frC g) 26)).alloc (.cells (frC Fr.zero) 26)).alloc (.cells (frC f ++ frC g) 26)) := ((((Own.start w).push rfl _ _).push (by simp) _ _).push (by simp) _ _).push (by simp) _ _
  go_enter Try.func27, Try.ntmps27
  go_wp2_with (first | (go_at_call 124; refine (areFrames_any _ [f, g] _ (reads_pair f g (ho.at 3 rfl))).mono ?_; rintro e w1 ⟨rfl, hb1⟩; have ho1 := ho.call hb1; obtain ⟨f1, f2, f3, f4, f5, f6, f7⟩ := (ho1.at 0 rfl).facts (Nat.add_zero _); obtain ⟨g1, g2, g3, g4, g5, g6, g7⟩ := (ho1.at 1 rfl).facts rfl) | (go_at_call 125; refine (less_any f g _).mono ?_; rintro e w2 ⟨rfl, hb2⟩; have ho2 := ho1.call hb2; obtain ⟨k1, k2, k3, k4, k5, k6, k7⟩ := (ho2.at 2 rfl).facts (show _ = w.heap.size + 1 + 1 from rfl)))
  have ho3 := ho2.set' 2 rfl (show w.heap.size + 1 + 1 = w.heap.size + 2 from rfl) (frC (f.less g)) rfl
  exact bodyPost_ret (results26_two rfl rfl rfl (ho3.at 2 rfl)) rfl ⟨rfl, ho3.below⟩

theorem jump_any (f g : Fr) (w : World) (hf : f.ok = true) (hg : g.ok = true) : Calls Try.prog 128 #[frV f, frV g] w (RetB (.int .i64 (Fr.jump f g)) w) := by
  have ho : Own w [(frC f, 26), (frC g, 26)] ((w.alloc (.cells (frC f) 26)).alloc (.cells (frC g) 26)) := ((Own.start w).push rfl _ _).push (by simp) _ _
  go_enter Try.func128, Try.ntmps128
  go_wp2_with (first | (go_at_call 212; refine (differ_any f g _).mono ?_; rintro e w1 ⟨rfl, hb1⟩; have ho1 := ho.call hb1) | (go_at_call 123; refine (count_any _ _ (Fr.ok_differ hf hg)).mono ?_; rintro e w2 ⟨rfl, hb2⟩; have ho2 := ho1.call hb2))
  go_ret
  exact RetB.mk rfl ho2.below

/-- A value and a code. -/
def Ret2 (u v : Value) (w : World) (e : Ending) (w' : World) : Prop := e = .returned (.tuple #[u, v]) ∧ Below w.heap.size w w'
theorem Ret2.mk {u v u' v' : Value} {w w' : World} (h : u' = u) (h' : v' = v) (hb : Below w.heap.size w w') : Ret2 u v w (.returned (.tuple #[u', v'])) w' := ⟨by rw [h, h'], hb⟩

theorem differBy_ok (f g : Fr) (w : World) (hf : f.ok = true) (hg : g.ok = true) : Calls Try.prog 30 #[frV f, frV g] w (Ret2 (.int .i64 (Fr.jump f g)) (.int .i64 0) w) := by
  have hk := pair_ok hf hg
  have ho : Own w [(frC f, 26), (frC g, 26), (frC f ++ frC g, 26)] (((w.alloc (.cells (frC f) 26)).alloc (.cells (frC g) 26)).alloc (.cells (frC f ++ frC g) 26)) := (((Own.start w).push rfl _ _).push (by simp) _ _).push (by simp) _ _
  go_enter Try.func30, Try.ntmps30
  go_wp2_with (first | (go_at_call 124; refine (areFrames_any _ [f, g] _ (reads_pair f g (ho.at 2 rfl))).mono ?_; rintro e w1 ⟨rfl, hb1⟩; have ho1 := ho.call hb1; obtain ⟨f1, f2, f3, f4, f5, f6, f7⟩ := (ho1.at 0 rfl).facts (Nat.add_zero _); obtain ⟨g1, g2, g3, g4, g5, g6, g7⟩ := (ho1.at 1 rfl).facts rfl) | (go_at_call 128; refine (jump_any f g _ hf hg).mono ?_; rintro e w2 ⟨rfl, hb2⟩; have ho2 := ho1.call hb2))
  go_ret2
  exact Ret2.mk rfl rfl ho2.below

theorem countDots_ok (f : Fr) (w : World) (hf : f.ok = true) : Calls Try.prog 26 #[frV f] w (Ret2 (.int .i64 f.cnt) (.int .i64 0) w) := by
  have ho : Own w [(frC f, 26)] (w.alloc (.cells (frC f) 26)) := (Own.start w).push rfl _ _
  go_enter Try.func26, Try.ntmps26
  go_wp2_with (first | (go_at_call 20; refine (valid_any f _).mono ?_; rintro e w1 ⟨rfl, hb1⟩; have ho1 := ho.call hb1; obtain ⟨f1, f2, f3, f4, f5, f6, f7⟩ := (ho1.at 0 rfl).facts (Nat.add_zero _)) | (go_at_call 123; refine (count_any f _ hf).mono ?_; rintro e w2 ⟨rfl, hb2⟩; have ho2 := ho1.call hb2))
  go_ret2
  exact Ret2.mk rfl rfl ho2.below

theorem checkPlace_ok (f : Fr) (x y : Int) (w : World) (hf : f.ok = true) (hp : isP x y = true) : Calls Try.prog 129 #[frV f, .int .i64 x, .int .i64 y] w (RetB (.int .i64 0) w) := by
  have ho : Own w [(frC f, 26)] (w.alloc (.cells (frC f) 26)) := (Own.start w).push rfl _ _
  go_enter Try.func129, Try.ntmps129
  go_wp2_with (first | (go_at_call 20; refine (valid_any f _).mono ?_; rintro e w1 ⟨rfl, hb1⟩; have ho1 := ho.call hb1) | (go_at_call 131; refine (isPlace_any _ _ _).mono ?_; rintro e w' ⟨rfl, rfl⟩))
  go_ret
  exact RetB.mk rfl ho1.below

theorem hasDot_ok (f : Fr) (x y : Int) (w : World) (hf : f.ok = true) (hp : isP x y = true) : Calls Try.prog 31 #[frV f, .int .i64 x, .int .i64 y] w (Ret2 (.bool (f.has x y)) (.int .i64 0) w) := by
  have ho : Own w [(frC f, 26)] (w.alloc (.cells (frC f) 26)) := (Own.start w).push rfl _ _
  go_enter Try.func31, Try.ntmps31
  go_wp2_with (first | (go_at_call 129; refine (checkPlace_ok f x y _ hf hp).mono ?_; rintro e w1 ⟨rfl, hb1⟩; have ho1 := ho.call hb1; obtain ⟨f1, f2, f3, f4, f5, f6, f7⟩ := (ho1.at 0 rfl).facts (Nat.add_zero _)) | (go_at_call 108; refine (has_any f x y _).mono ?_; rintro e w2 ⟨rfl, hb2⟩; have ho2 := ho1.call hb2))
  go_ret2
  exact Ret2.mk rfl rfl ho2.below

/-- A slice of the call's own, and a code. -/
def RetOwn2 {α : Type} (e : TypeId) (enc : α → List Value) (sz : Nat) (xs : List α) (code : Int) (w : World) (en : Ending) (w' : World) : Prop :=
  ∃ v, en = .returned (.tuple #[v, .int .i64 code]) ∧ Owns w' w.heap.size e enc sz v xs ∧ Below w.heap.size w w'

theorem dotsOf_ok (f : Fr) (w : World) (hf : f.ok = true) : Calls Try.prog 32 #[frV f] w (RetOwn2 52 dotE 2 f.dots 0 w) := by
  have ho : Own w [(frC f, 26)] (w.alloc (.cells (frC f) 26)) := (Own.start w).push rfl _ _
  go_enter Try.func32, Try.ntmps32
  go_wp2_with (first | (go_at_call 20; refine (valid_any f _).mono ?_; rintro e w1 ⟨rfl, hb1⟩; have ho1 := ho.call hb1; obtain ⟨f1, f2, f3, f4, f5, f6, f7⟩ := (ho1.at 0 rfl).facts (Nat.add_zero _)) | (go_at_call 130; refine (dots_any f _).mono ?_; rintro e w2 ⟨v, rfl, hv, hb2⟩; have ho2 := ho1.call hb2))
  go_ret2
  exact ⟨v, rfl, hv.mono ho1.below.size, ho2.below⟩
end Go.Proofs.Ythhimlicaiifdaa