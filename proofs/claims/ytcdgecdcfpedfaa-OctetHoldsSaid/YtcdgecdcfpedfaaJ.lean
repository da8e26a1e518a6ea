/-
  PROVED: The reference's Same says yes of two slices that hold the same texts. CONDITIONS: none besides.
-/
import Derived.Test.YtcdgecdcfpedfaaI
namespace Go.Proofs.Ytcdgecdcfpedfaa
open Go.RowKit Oc
/-- The texts that a slice leads to. -/
def Texts (w : World) (v : Value) (l : List ByteArray) : Prop :=
  ∃ ao cp, v = .slice ao l.length cp ∧ l.length ≤ 9223372036854775807 ∧ (0 < l.length → ∃ b off, ao = some ⟨b, off, none⟩ ∧ ∀ i, i < l.length → w.cell? ⟨b, off + i, none⟩ = some (.string (l.getD i ByteArray.empty)))
theorem Texts.of_own {w : World} {B : Nat} {v : Value} {l : List ByteArray} (h : w.ownsRow B 9 1 v l.length (l.map Value.string)) : Texts w v l := by
  obtain ⟨ao, cp, rfl⟩ := ownsRow_form h
  have h' := h
  obtain ⟨h1, ⟨h2, h3⟩ | ⟨g, cap, cur, ha, h4, h5, h6, h7, h8, h9⟩⟩ := h
  · exact ⟨_, _, rfl, by omega, fun hl => by omega⟩
  · cases ha
    refine ⟨_, _, rfl, by unfold maxLen at h7; omega, fun hl => ⟨g, 0, rfl, fun i hi => ?_⟩⟩
    rw [Nat.zero_add, h'.cellAt i (by omega)]
    simp [List.getD, List.getElem?_eq_getElem hi]
theorem Texts.drawn {w : World} {v : Value} {l : List ByteArray} (h : Texts w v l) (n : Nat) : Texts (w.drewN n) v l := h

set_option maxRecDepth 100000 in
set_option maxHeartbeats 400000 in
theorem same_yes (v v' : Value) (l : List ByteArray) (w : World) (h : Texts w v l) (h' : Texts w v' l) :
    Calls Try.prog 29 #[v, v'] w fun e w' => e = .returned (.bool true) ∧ Below w.heap.size w w' := by
  obtain ⟨ao, cp, rfl, hl, hc⟩ := h
  obtain ⟨ao', cp', rfl, _, hc'⟩ := h'
  have HC := Lib.hid hc
  have HC' := Lib.hid hc'
  clear hc hc'
  go_enter Try.func29, Try.ntmps29
  go_wp2
  go_loopw [5] (fun i wr => ∃ j nz : Nat, i = .int .i64 j ∧ j ≤ l.length ∧ Hid (wr = w.drewN nz)) (fun i _ => l.length - (intOf i).toNat)
  case atStart => exact ⟨0, 0, rfl, by omega, rfl⟩
  case round =>
    obtain ⟨j, nz, rfl, hj, hw⟩ := hrel
    by_cases hlt : j < l.length
    · obtain ⟨b, off, rfl, hcell⟩ := HC.out (by omega)
      obtain ⟨b', off', rfl, hcell'⟩ := HC'.out (by omega)
      have h1 := cell_drawn hw.out (hcell j hlt)
      have h2 := cell_drawn hw.out (hcell' j hlt)
      generalize hs : l.getD j ByteArray.empty = s at h1 h2
      clear hcell hcell' hs
      go_wp2_with fail
      go_quiet (fail)
      go_wp2
      go_roundw
      case rel => go_light; exact ⟨j + 1, nz + nq, by go_num, by omega, by show _ = _; rw [hw.out, World.drewN_drewN]⟩
      case measure => go_light; simp [intOf]; omega
    · obtain rfl : j = l.length := by omega
      go_wp2
      go_ret
      exact ⟨rfl, by rw [hw.out]; exact below_drawn _ _⟩
end Go.Proofs.Ytcdgecdcfpedfaa
