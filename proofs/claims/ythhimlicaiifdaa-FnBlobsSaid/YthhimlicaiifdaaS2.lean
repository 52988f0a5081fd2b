/- Bytes that came in, as the walks of laws take them. -/
import Derived.Test.YthhimlicaiifdaaY8
import Derived.OpenShut
set_option maxRecDepth 100000
namespace Go.Proofs.Ythhimlicaiifdaa
open Go.RowKit Fb

theorem add_cell {w : World} {x : Addr} {v : Value} (h : w.cell? (x.add 0) = some v) : ∃ b o, x = ⟨b, o, none⟩ := by
  obtain ⟨b, o, s⟩ := x
  cases s with
  | none => exact ⟨b, o, rfl⟩
  | some s =>
    exfalso
    have h1 : (⟨b, o, some s⟩ : Addr).add 0 = ⟨b, o, some s⟩ := by unfold Addr.add; rw [if_pos rfl]
    rw [h1] at h
    unfold World.cell? at h
    split at h
    · simp at h
    · cases h

theorem codeAt_of_row {w : World} {a : Option Addr} {len cap : Nat} {zs : List Int}
    (h : (a = none ∧ len = 0 ∧ cap = 0 ∧ zs = []) ∨ ∃ x, a = some x ∧ len ≤ cap ∧ cap ≤ maxLen ∧ zs.length = cap ∧ (∀ i, i < zs.length → w.cell? (x.add i) = some (.int .u8 (zs.getD i 0))) ∧ ∀ n ∈ zs, (Lit.int .u8 n).wf = true) : CodeAt w (.slice a len cap) := by
  rcases h with ⟨rfl, rfl, rfl, rfl⟩ | ⟨x, rfl, h1, h2, h3, h4, h5⟩
  · exact ⟨none, 0, [], rfl, by simp, fun v hv => by simp at hv, fun h => absurd rfl h⟩
  · have hl : (zs.take len).length = len := by rw [List.length_take]; omega
    refine ⟨some x, cap, zs.take len, by rw [hl], by rw [hl]; unfold maxLen at h2; omega, fun v hv => ?_, fun hn => ?_⟩
    · have := h5 v (List.mem_of_mem_take hv)
      have := bounds_u8 this
      omega
    · have h0 : 0 < len := by
        have := List.length_pos_iff.2 hn
        omega
      have hc := h4 0 (by omega)
      obtain ⟨b, o, rfl⟩ := add_cell hc
      refine ⟨b, o, rfl, fun i v hv => ?_⟩
      have hi := (List.getElem?_eq_some_iff.1 hv).1
      rw [hl] at hi
      have hci := h4 i (by omega)
      rw [Addr.add_mid] at hci
      rw [hci]
      rw [List.getElem?_take] at hv
      rw [if_pos hi] at hv
      simp [hv]
end Go.Proofs.Ythhimlicaiifdaa
