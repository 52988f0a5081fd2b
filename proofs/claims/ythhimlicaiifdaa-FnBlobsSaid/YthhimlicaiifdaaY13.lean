/- The dots of the reference; whether two lists of dots are the same; a frame of its dots; what the laws ask of their bytes. -/
import Derived.Test.YthhimlicaiifdaaY12
set_option maxRecDepth 100000
set_option linter.unusedSimpArgs false
set_option linter.unusedVariables false
namespace Go.Proofs.Ythhimlicaiifdaa
open Go.RowKit Fb

theorem sDotsOf_ok (f : Fr) (w : World) (hf : f.ok = true) : Calls Try.prog 33 #[frV f] w (RetOwn2 52 dotE 2 f.dots 0 w) := by
  have ho : Own w [(frC f, 26)] (w.alloc (.cells (frC f) 26)) := (Own.start w).push rfl _ _
  go_enter Try.func33, Try.ntmps33
  go_wp2_with (first | (go_at_call 109; refine (sOk_any f _ _ _ (FrAt.of_blk ((ho.at 0 rfl).facts' (Nat.add_zero _)))).mono ?_; rintro e w1 ⟨rfl, rfl⟩) | (go_at_call 110; refine (sDots_any f _ _ _ (FrAt.of_blk ((ho.at 0 rfl).facts' (Nat.add_zero _)))).mono ?_; rintro e w2 ⟨v, rfl, hv, hb2⟩; have ho2 := ho.call hb2))
  go_ret2
  exact ⟨v, rfl, hv.mono (by simp), ho2.below⟩

set_option maxHeartbeats 1000000 in
theorem sameDots_ok (xs : List (Nat × Nat)) (v1 v2 : Value) (w : World) (h1 : Reads w dotE 2 v1 xs) (h2 : Reads w dotE 2 v2 xs) : Calls Try.prog 35 #[v1, v2] w (RetB (.bool true) w) := by
  obtain ⟨A1, c1, rfl, l1, m1, h1⟩ := h1
  obtain ⟨A2, c2, rfl, l2, m2, h2⟩ := h2
  go_enter Try.func35, Try.ntmps35
  go_wp2
  go_loopw [5] (fun t wr => ∃ (k n : Nat), k ≤ xs.length ∧ t = .int .i64 k ∧ wr = w.drewN n) (fun t _ => xs.length - (intOf t).toNat)
  case atStart => exact ⟨0, 0, by omega, rfl, rfl⟩
  case round =>
    obtain ⟨k, n, hk, rfl, rfl⟩ := hrel
    by_cases hlt : k < xs.length
    · obtain ⟨p, hp⟩ : ∃ p, xs[k]? = some p := ⟨_, List.getElem?_eq_getElem hlt⟩
      have hne : xs ≠ [] := by intro e; rw [e] at hlt; simp at hlt
      obtain ⟨b1, o1, rfl, g1⟩ := h1 hne
      obtain ⟨b2, o2, rfl, g2⟩ := h2 hne
      obtain ⟨px, py⟩ := p
      have a0 := g1 k _ hp 0 _ rfl
      have a1 := g1 k _ hp 1 _ rfl
      have d0 := g2 k _ hp 0 _ rfl
      have d1 := g2 k _ hp 1 _ rfl
      simp only [Nat.add_zero] at a0 d0
      clear g1 g2 h1 h2 hp
      go_wp2
      go_quiet (fail)
      go_wp2
      exact ⟨⟨k + 1, n + nq, by omega, by go_num, rfl⟩, by simp [intOf]; omega⟩
    · obtain rfl : k = xs.length := by omega
      clear h1 h2
      go_wp2
      go_ret
      exact RetB.mk rfl (below_drewN (Below.refl _ _) n)

theorem isP_in {x y : Nat} (hx : x < 12) (hy : y < 12) : isP (x : Int) (y : Int) = true := by unfold isP; simp; omega
theorem put_putI (g : Fr) {x y : Nat} (hx : x < 12) (hy : y < 12) : g.put x y = g.putI (x : Int) (y : Int) := by
  unfold Fr.putI
  rw [if_pos (by omega)]
  simp

set_option maxHeartbeats 2000000 in
theorem frameFrom_ok (xs : List (Nat × Nat)) (v : Value) (w : World) (hv : Reads w dotE 2 v xs) (hin : ∀ p, p ∈ xs → p.1 < 12 ∧ p.2 < 12) : Calls Try.prog 34 #[v] w (RetF2 (xs.foldl (fun h p => h.putI (p.1 : Int) (p.2 : Int)) Fr.zero) 0 w) := by
  have ho : Own w [(frC Fr.zero, 26), (frC Fr.zero, 26)] ((w.alloc (.cells (frC Fr.zero) 26)).alloc (.cells (frC Fr.zero) 26)) := ((Own.start w).push rfl _ _).push (by simp) _ _
  have HC := Lib.hid hv
  obtain ⟨A, c, rfl, l1, m1, hcell⟩ := hv
  clear hcell
  have HI := Lib.hid hin
  clear hin
  go_enter Try.func34, Try.ntmps34
  go_wp2
  go_loopw [10] (fun t wr => ∃ k : Nat, k ≤ xs.length ∧ t = .int .i64 k ∧ Own w [(frC Fr.zero, 26), (frC ((xs.take k).foldl (fun h p => h.putI (p.1 : Int) (p.2 : Int)) Fr.zero), 26)] wr) (fun t _ => xs.length - (intOf t).toNat)
  case atStart => exact ⟨0, by omega, rfl, ho⟩
  case round =>
    clear ho
    obtain ⟨k, hk, rfl, ho⟩ := hrel
    by_cases hlt : k < xs.length
    · obtain ⟨p, hp⟩ : ∃ p, xs[k]? = some p := ⟨_, List.getElem?_eq_getElem hlt⟩
      have hne : xs ≠ [] := by intro e; rw [e] at hlt; simp at hlt
      have hr := HC.out.below ho.below
      obtain ⟨A', c', hA', l1', m1', g0⟩ := hr
      cases hA'
      obtain ⟨b1, o1, rfl, g1⟩ := g0 hne
      clear g0
      obtain ⟨hx, hy⟩ := HI.out p (List.mem_of_getElem? hp)
      obtain ⟨px, py⟩ := p
      simp only at hx hy
      have a0 := g1 k _ hp 0 _ rfl
      have a1 := g1 k _ hp 1 _ rfl
      simp only [Nat.add_zero] at a0
      have HF : Hid (∀ g : Fr, g = (xs.take k).foldl (fun h p => h.putI (p.1 : Int) (p.2 : Int)) Fr.zero → g.put px py = (xs.take (k + 1)).foldl (fun h p => h.putI (p.1 : Int) (p.2 : Int)) Fr.zero) := Lib.hid (by
        rintro g rfl
        rw [List.take_add_one, hp, List.foldl_append, put_putI _ hx hy]
        rfl)
      have hP := isP_in hx hy
      clear g1 hp
      generalize hg : (xs.take k).foldl (fun h p => h.putI (p.1 : Int) (p.2 : Int)) Fr.zero = g at ho
      have HG := Lib.hid hg
      clear hg
      have ho1 := ho.alloc (.cells #[.int .i8 px, .int .i8 py] 52)
      obtain ⟨f1, f2, f3, f4, f5, f6, f7⟩ := (ho1.at 1 rfl).facts rfl
      go_wp2_with (first | (go_at_call 131; refine (isPlace_any _ _ _).mono ?_; rintro e w' ⟨rfl, rfl⟩; rw [hP]) | (go_at_call 132; refine (with_any _ px py _ (by omega) hy).mono ?_; rintro e w1 ⟨rfl, hb1⟩; have ho2 := ho1.call hb1; obtain ⟨k1, k2, k3, k4, k5, k6, k7⟩ := (ho2.at 1 rfl).facts rfl))
      exact ⟨⟨k + 1, by omega, by go_num, by rw [← HF.out g HG.out.symm]; exact ho2.set' 1 rfl rfl _ rfl⟩, by simp [intOf]; omega⟩
    · obtain rfl : k = xs.length := by omega
      rw [List.take_length] at ho
      have HG : ∃ g, g = xs.foldl (fun h p => h.putI (p.1 : Int) (p.2 : Int)) Fr.zero := ⟨_, rfl⟩
      obtain ⟨g, hg⟩ := HG
      rw [← hg] at ho
      replace hg := Lib.hid hg
      obtain ⟨f1, f2, f3, f4, f5, f6, f7⟩ := (ho.at 1 rfl).facts rfl
      obtain ⟨g1, g2, g3, g4, g5, g6, g7⟩ := (ho.at 0 rfl).facts (Nat.add_zero _)
      go_wp2
      have hoe := ho.set' 0 rfl (Nat.add_zero _).symm (frC g) rfl
      exact bodyPost_ret (results26_two rfl rfl rfl ((hoe.at 0 rfl).facts' (Nat.add_zero _))) rfl ⟨by rw [hg.out]; rfl, hoe.below⟩

/-- What the laws ask of their bytes. -/
def BoolQ (w : World) (e : Ending) (w' : World) : Prop := ∃ p : Bool, e = .returned (.bool p) ∧ w = w'
theorem long_any (A A' : Option Addr) (n n' c c' : Nat) (w : World) : Calls Try.prog 8 #[.slice A n c, .slice A' n' c'] w (BoolQ w) := by
  go_enter Try.func8, Try.ntmps8
  go_wp2
  all_goals go_ret
  all_goals exact ⟨_, rfl, rfl⟩

theorem at_any (v : Value) (i : Nat) (n : Int) (hn : 1 ≤ n) (hn2 : n ≤ 1000000) (w : World) (h : CodeAt w v) : Calls Try.prog 21 #[v, .int .i64 i, .int .i64 n] w (fun e w' => ∃ r : Int, e = .returned (.int .i64 r) ∧ 0 ≤ r ∧ r < n ∧ w = w') := by
  obtain ⟨A, c, bs, rfl, h2, h3, h4⟩ := h
  by_cases hi : i < bs.length
  · obtain ⟨g, o, rfl, hc⟩ := h4 (by intro e; rw [e] at hi; simp at hi)
    obtain ⟨x, hx⟩ : ∃ x, bs[i]? = some x := ⟨_, List.getElem?_eq_getElem hi⟩
    have hcx := hc i x hx
    have hx1 := (h3 x (List.mem_of_getElem? hx)).1
    have hx2 := (h3 x (List.mem_of_getElem? hx)).2
    clear hc hx h3 h4
    go_enter Try.func21, Try.ntmps21
    go_wp2
    go_ret
    exact ⟨_, rfl, (mod_bd _ _ hn).1, (mod_bd _ _ hn).2, rfl⟩
  · clear h3 h4
    go_enter Try.func21, Try.ntmps21
    go_wp2
    go_ret
    exact ⟨0, rfl, Int.le_refl _, by omega, rfl⟩
end Go.Proofs.Ythhimlicaiifdaa
