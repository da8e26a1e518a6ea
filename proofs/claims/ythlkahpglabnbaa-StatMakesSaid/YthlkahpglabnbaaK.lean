/-
  PROVED: The reference's Same says yes of two slices that hold the same statuses. CONDITIONS: none besides.
-/
import Derived.Test.YthlkahpglabnbaaJ
import Derived.Laws.StructEq
namespace Go.Proofs.Ythlkahpglabnbaa
open Go.RowKit
set_option maxRecDepth 100000
set_option maxHeartbeats 2000000
theorem cell_drawn {w wr : World} {n : Nat} {p : Addr} {v : Value} (hw : wr = w.drewN n) (h : w.cell? p = some v) : wr.cell? p = some v := by rw [hw]; exact h
theorem same_yes (v v' : Value) (l : List St) (w : World) (h : Stats w v l) (h' : Stats w v' l) :
    Calls Try.prog 11 #[v, v'] w fun e w' => e = .returned (.bool true) ∧ Below w.heap.size w w' := by
  obtain ⟨ao, cp, rfl, hl, hc⟩ := h
  obtain ⟨ao', cp', rfl, _, hc'⟩ := h'
  have HC := Lib.hid hc
  have HC' := Lib.hid hc'
  clear hc hc'
  go_enter Try.func11, Try.ntmps11
  go_wp2
  go_loopw [5] (fun i wr => ∃ j nz : Nat, i = .int .i64 j ∧ j ≤ l.length ∧ Hid (wr = w.drewN nz)) (fun i _ => l.length - (intOf i).toNat)
  case atStart => exact ⟨0, 0, rfl, by omega, rfl⟩
  case round =>
    obtain ⟨j, nz, rfl, hj, hw⟩ := hrel
    by_cases hlt : j < l.length
    · obtain ⟨b, off, rfl, hcell⟩ := HC.out (by omega)
      obtain ⟨b', off', rfl, hcell'⟩ := HC'.out (by omega)
      obtain ⟨c0, c1, c2, c3⟩ := hcell j hlt
      obtain ⟨d0, d1, d2, d3⟩ := hcell' j hlt
      have c0 := cell_drawn hw.out c0
      have c1 := cell_drawn hw.out c1
      have c2 := cell_drawn hw.out c2
      have c3 := cell_drawn hw.out c3
      have d0 := cell_drawn hw.out d0
      have d1 := cell_drawn hw.out d1
      have d2 := cell_drawn hw.out d2
      have d3 := cell_drawn hw.out d3
      generalize hs : l[j] = x at c0 c1 c2 c3 d0 d1 d2 d3
      obtain ⟨o, p, m, r⟩ := x
      simp only at c0 c1 c2 c3 d0 d1 d2 d3
      clear hcell hcell' hs
      go_wp2_with fail
      go_quiet (fail)
      go_wp2
      go_roundw
      case rel => go_light; exact ⟨j + 1, nz + nq, by go_num, by omega, by show _ = _; rw [hw.out, World.drewN_drewN]⟩
      case measure => go_light; simp [intOf]; omega
    · obtain rfl : j = l.length := by omega
      go_wp2
      go_ret
      exact ⟨rfl, by rw [hw.out]; exact ⟨rfl, rfl, rfl, Nat.le_refl _, fun _ _ => rfl⟩⟩
end Go.Proofs.Ythlkahpglabnbaa
