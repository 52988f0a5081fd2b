/- All blobs of a frame: the program's own function on a valid frame. -/
import Derived.Test.YthhimlicaiifdaaZ5
import Derived.Test.YthhimlicaiifdaaK3b
set_option maxRecDepth 100000
set_option linter.unusedSimpArgs false
set_option linter.unusedVariables false
namespace Go.Proofs.Ythhimlicaiifdaa
open Go.RowKit Fb

/-- What stands behind the append of a blob. -/
theorem after_append {w w4 w5 : World} {B left : Fr} {v v2 : Value} {done : List Fr} (hg : ((w4.alloc (.cells (frC B) 26)).alloc (.cells (frE B).toArray 26)).grownBy w5 v.ownBlock)
    (hv4 : Owns w4 (w.heap.size + 1) 26 frE 12 v done) (hn4 : Blk (w4.alloc (.cells (frC B) 26)) w4.heap.size (frC B) 26) (ho4 : Own w [(frC left, 26)] (w4.alloc (.cells (frC B) 26)))
    (hv5 : Owns w5 (w.heap.size + 1) 26 frE 12 v2 (done ++ [B])) :
    Own w [(frC left, 26)] w5 ∧ Owns w5 (w.heap.size + 1) 26 frE 12 v2 (done ++ [B]) ∧ row? w5 w.heap.size 0 12 = some (frC left) ∧ row? w5 w4.heap.size 0 12 = some (frC B) := by
  have hne : v.ownBlock ≠ some w4.heap.size := fun e => Nat.lt_irrefl _ (hv4.row_lt e).2
  have hn5 : Blk w5 w4.heap.size (frC B) 26 := (hn4.alloc _).grown hg hne
  have ho5 : Own w [(frC left, 26)] w5 := (ho4.alloc _).grown hg (fun g e => (hv4.row_lt e).1)
  exact ⟨ho5, hv5, by rw [((ho5.at 0 rfl).facts' (Nat.add_zero _)).row, rowIn_fr], by rw [hn5.row, rowIn_fr]⟩
set_option maxHeartbeats 8000000 in
theorem BlobsOf_ok (f : Fr) (w : World) (hf : f.ok = true) : Calls Try.prog 36 #[frV f] w (RetOwn2 26 frE 12 (Fr.blobs f f) 0 w) := by
  have ho : Own w [(frC f, 26)] (w.alloc (.cells (frC f) 26)) := (Own.start w).push rfl _ _
  go_enter Try.func36, Try.ntmps36
  go_wp2_with (go_at_call 20; refine (valid_any f _).mono ?_; rintro e w1 ⟨rfl, hb1⟩; have ho1 := ho.call hb1)
  have ho2 := ho1.alloc (.cells #[] 26)
  have hv : Owns (w1.alloc (.cells #[] 26)) (w.heap.size + 1) 26 frE 12 (.slice (some ⟨w1.heap.size, 0, none⟩) 0 0) [] := Owns.empty' _ _ _ _ rfl (by have := (ho1.at 0 rfl).lt; simp at this; omega)
  go_loopg [4] f.cnt (fun g v wr => ∃ left done, g = left.cnt ∧ left.ok = true ∧ Fr.closed f left ∧ done ++ Fr.blobs f left = Fr.blobs f f ∧ Own w [(frC left, 26)] wr ∧ Owns wr (w.heap.size + 1) 26 frE 12 v done)
  case atStart => exact ⟨f, [], rfl, hf, Fr.closed_self f, rfl, ho2, hv⟩
  case round =>
    clear ho ho1 ho2 hv hb1
    obtain ⟨left, done, rfl, hl, hcl, hdone, ho, hv⟩ := hrel
    have HC := Lib.hid hcl
    have HD := Lib.hid hdone
    have hlen : done.length ≤ 144 := by
      have h1 := congrArg List.length hdone
      have h2 := Fr.blobs_length f 144 f hf (Fr.closed_self f) (Fr.cnt_le f)
      rw [List.length_append] at h1
      omega
    clear hcl hdone
    have l0 : row? wr w.heap.size 0 12 = some (frC left) := by rw [((ho.at 0 rfl).facts' (Nat.add_zero _)).row, rowIn_fr]
    by_cases hz : left = Fr.zero
    · have hc0 : left.cnt = 0 := (Fr.cnt_zero_iff hl).2 hz
      have HZ := Lib.hid hz
      clear hz
      go_wp2_with (go_at_call 123; refine (count_any left _ hl).mono ?_; rintro e w2 ⟨rfl, hb2⟩; rw [hc0])
      go_ret2
      refine ⟨_, rfl, ?_, (ho.call hb2).below⟩
      have h1 := HD.out
      rw [HZ.out, Fr.blobs_zero, List.append_nil] at h1
      rw [← h1]
      exact (hv.below hb2).mono (by omega)
    · obtain ⟨px, py, hx, hy, hdf, hdl, hfb, hsame, rest, hdots⟩ := Fr.firstBlob_spec hl HC.out hz
      have hpos : (0 : Int) < (left.cnt : Int) := by
        have : left.cnt ≠ 0 := fun e => hz ((Fr.cnt_zero_iff hl).1 e)
        omega
      have HZ := Lib.hid hz
      have HFB := Lib.hid hfb
      have HS := Lib.hid hsame
      have HDT := Lib.hid hdots
      clear hz hfb hsame hdots
      generalize hB : Fr.blobAt f px py = B at HFB HS
      replace hB := Lib.hid hB
      go_wp2_with (first
        | (go_at_call 123; refine (count_any left _ hl).mono ?_; rintro e w2 ⟨rfl, hb2⟩; have ho2 := ho.call hb2; have hv2 := hv.below hb2; have l2 : row? w2 w.heap.size 0 12 = some (frC left) := by rw [((ho2.at 0 rfl).facts' (Nat.add_zero _)).row, rowIn_fr])
        | (go_at_call 130; refine (dots_any left _).mono ?_; rintro e w3 ⟨vd, rfl, hd3, hb3⟩; rw [HDT.out] at hd3; obtain ⟨Ad, cd, rfl⟩ := hd3.slice; obtain ⟨bd, rfl, hbd1, hbd2, hcc⟩ := hd3.at dotE_len (k := 0) rfl; have ho3 := ho2.call hb3; have hv3 := hv2.below hb3; have ca := hcc 0 _ rfl; have cb := hcc 1 _ rfl; simp only [Nat.zero_mul, Nat.add_zero, Nat.zero_add] at ca cb; clear hcc; have ho3' := ho3.alloc (.cells #[.int .i8 px, .int .i8 py] 52); have hv3' := hv3.alloc (.cells #[.int .i8 px, .int .i8 py] 52); have l3 : row? (w3.alloc (.cells #[.int .i8 px, .int .i8 py] 52)) w.heap.size 0 12 = some (frC left) := by rw [((ho3'.at 0 rfl).facts' (Nat.add_zero _)).row, rowIn_fr])
        | (go_at_call 133; refine (blob_any left px py _ hl hx hy hdl).mono ?_; rintro e w4 ⟨rfl, hb4⟩; rw [HS.out]; have ho4 := ho3'.call hb4; have hv4 := hv3'.below hb4; have ho4' := ho4.alloc (.cells (frC B) 26); have hv4' := hv4.alloc (.cells (frC B) 26); have hn4 := Blk.alloc_new w4 (frC B) 26; have hs4 := (ho4.at 0 rfl).lt)
        | (at_builtin; (refine wpList_append1g rfl _ _ 47 26 12 _ 24 frE rfl Try.underlying47 infoFr rfl (by omega) (by omega) frE_len frE_one B ?_ ?_ ?_ hv4' (Nat.le_trans hs4 (by rw [show (w4.alloc (.cells (frC B) 26)).heap.size = w4.heap.size + 1 by simp]; omega)) (by omega) ?_; rfl; rfl; exact congrArg (fun b => Value.slice (some ⟨b, 0, none⟩) 1 1) (show w4.heap.size + 1 = (w4.alloc (.cells (frC B) 26)).heap.size by simp); intro v2 w5 hg5 hv5 hz5; obtain ⟨ho5, hv5', l5, l5'⟩ := after_append hg5 hv4 hn4 ho4' hv5))
        | (go_at_call 125; refine (less_any left B _).mono ?_; rintro e w6 ⟨rfl, hb6⟩; have ho6 := ho5.call hb6; have hv6 := hv5'.below hb6; have m1 := ((ho6.at 0 rfl).facts' (Nat.add_zero _)).fits 0 12; have m2 := ((ho6.at 0 rfl).facts' (Nat.add_zero _)).put 0))
      go_roundg (left.less B).cnt
      case measure => rw [← HFB.out]; exact Fr.less_lt hl HC.out HZ.out
      case rel =>
        refine ⟨left.less B, done ++ [B], rfl, Fr.ok_less hl, ?_, ?_, ho6.set' 0 rfl (Nat.add_zero _).symm (frC (left.less B)) rfl, hv6.other _ _ (by omega)⟩
        · rw [← HFB.out]; exact Fr.closed_next hl HC.out HZ.out
        · rw [← HD.out, Fr.blobs_cons hl HC.out HZ.out, HFB.out, List.append_assoc]; rfl
end Go.Proofs.Ythhimlicaiifdaa
