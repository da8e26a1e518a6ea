/-
  PROVED: The walk of the law OwnerFirst. CONDITIONS: none.
-/
import Derived.Test.YtoanpfbdhkgncaaN
namespace Go.Proofs.Ytoanpfbdhkgncaa
open Go.RowKit
set_option maxRecDepth 100000
set_option maxHeartbeats 2000000
theorem cell_drawn {w wr : World} {n : Nat} {p : Addr} {v : Value} (hw : wr = w.drewN n) (h : w.cell? p = some v) : wr.cell? p = some v := by rw [hw]; exact h
theorem num_keep (k : Int) (w : World) : Calls Try.prog 11 #[.int .i64 k] w fun e w' => e = .returned (.int .i64 k) ∧ w = w' := (num_any k w).mono fun _ _ h => ⟨h.1, h.2.symm⟩
theorem first_law (n l s me : Int) (all : Bool) (x : Ow) (w : World) : Calls Try.prog 4 #[shapeV n l s, .agg #[.int .i64 me, .bool all], x.val] w fun e w' => e = .returned (.bool true) ∧ Below w.heap.size w w' := by
  have H1 := Lib.hid (first_any n l s me x all)
  have H2 := Lib.hid (refFirst_any n l s me x all)
  generalize firstR n l s me x all = r at *
  obtain ⟨xs, no⟩ := r
  obtain ⟨k, h⟩ := x
  simp only [Ow.val, shapeV] at *
  have HW := Lib.hid works_any
  go_enter Try.func4, Try.ntmps4
  go_wp2_with fail
  refine (H1.out _).mono ?_
  rintro e w1 ⟨⟨v1, rfl, hi1⟩, hb⟩
  have P := Lib.hid (heap_call hb (heap_old (heap_old (heap_new (W := w) rfl))))
  have A : Hid (w1.heap[w.heap.size + 1]? = some (.cells #[.int .i64 me, .bool all] 37)) := heap_call hb (heap_old (heap_new (by simp)))
  have Q : Hid (w1.heap[w.heap.size + 1 + 1]? = some (.cells #[.int .i64 k, .int .i64 h] 25)) := heap_call hb (heap_new (by simp))
  have HBz := Lib.hid ((((below_new _).alloc (by simp) _).alloc (by simp; omega) _).trans (hb.mono (by simp; omega)))
  have HI1 := Lib.hid hi1
  have p0 : w1.cell? ⟨w.heap.size, 0, none⟩ = some (.int .i64 n) := cell_of P.out 0
  have p1 : w1.cell? ⟨w.heap.size, 1, none⟩ = some (.int .i64 l) := cell_of P.out 1
  have p2 : w1.cell? ⟨w.heap.size, 2, none⟩ = some (.int .i64 s) := cell_of P.out 2
  have a0 : w1.cell? ⟨w.heap.size + 1, 0, none⟩ = some (.int .i64 me) := cell_of A.out 0
  have a1 : w1.cell? ⟨w.heap.size + 1, 1, none⟩ = some (.bool all) := cell_of A.out 1
  have q0 : w1.cell? ⟨w.heap.size + 1 + 1, 0, none⟩ = some (.int .i64 k) := cell_of Q.out 0
  have q1 : w1.cell? ⟨w.heap.size + 1 + 1, 1, none⟩ = some (.int .i64 h) := cell_of Q.out 1
  clear hb hi1
  go_wp2_with fail
  refine (H2.out _).mono ?_
  rintro e w2 ⟨⟨v2, rfl, hi2⟩, hb⟩
  have HB2 := Lib.hid (HBz.out.trans (hb.mono HBz.out.size))
  have HI1 := Lib.hid (HI1.out.below hb (Nat.le_refl _))
  clear hb p0 p1 p2 a0 a1 q0 q1
  obtain ⟨ao, cp, rfl, hl, hc⟩ := HI1.out
  obtain ⟨ao', cp', rfl, _, hc'⟩ := hi2
  have HC := Lib.hid hc
  have HC' := Lib.hid hc'
  clear hc hc' HI1
  go_wp2_with (first | (go_at_call 11; refine (num_keep _ _).mono ?_; rintro e w' ⟨rfl, rfl⟩) | fail)
  go_loopw [11] (fun i wr => ∃ j nz : Nat, i = .int .i64 j ∧ j ≤ xs.length ∧ Hid (wr = w2.drewN nz)) (fun i _ => xs.length - (intOf i).toNat)
  case atStart => exact ⟨0, 0, rfl, by omega, rfl⟩
  case round =>
    obtain ⟨j, nz, rfl, hj, hw⟩ := hrel
    by_cases hlt : j < xs.length
    · obtain ⟨b, off, rfl, hcell⟩ := HC.out (by omega)
      obtain ⟨b', off', rfl, hcell'⟩ := HC'.out (by omega)
      have c0 := cell_drawn hw.out (hcell j hlt)
      have d0 := cell_drawn hw.out (hcell' j hlt)
      generalize hs : xs[j] = x at c0 d0
      clear hcell hcell' hs
      go_wp2_with fail
      go_quiet (fail)
      go_wp2
      go_roundw
      case rel => go_light; exact ⟨j + 1, nz + nq, by go_num, by omega, by show _ = _; rw [hw.out, World.drewN_drewN]⟩
      case measure => go_light; simp [intOf]; omega
    · obtain rfl : j = xs.length := by omega
      have HBr := Lib.hid (below_drewN HB2.out nz)
      rw [← hw.out] at HBr
      clear hw
      go_wp2_with fail
      refine (HW.out _).mono ?_
      rintro e w3 ⟨rfl, hb⟩
      have HB3 := Lib.hid (HBr.out.trans (hb.mono HBr.out.size))
      clear hb
      go_wp2
      go_ret
      exact ⟨rfl, HB3.out⟩
end Go.Proofs.Ytoanpfbdhkgncaa
