/-
  PROVED: Contracts of the reference's Power and ReadNumber. CONDITIONS: a power from 0 to 9; the slice holds bytes.
-/
import Derived.Test.YtcdgecdcfpedfaaB
import Derived.Deep.Light
namespace Go.Proofs.Ytcdgecdcfpedfaa
open Go.RowKit Oc
def pw (j : Nat) : Int := ((128 ^ j : Nat) : Int)
theorem power_any (n : Nat) (hn : n ≤ 9) (w : World) : Calls Try.prog 37 #[.int .i64 n] w fun e w' => e = .returned (.int .u64 (pw n)) ∧ w' = w := by
  go_enter Try.func37, Try.ntmps37
  go_wp2
  go_loop [3, 4] (fun p i => ∃ k : Nat, k ≤ n ∧ i = .int .i64 k ∧ p = .int .u64 ((128 ^ k : Nat) : Int)) (fun _ i => n - (intOf i).toNat)
  case atStart => exact ⟨0, by omega, rfl, rfl⟩
  case round =>
    obtain ⟨k, hk, rfl, rfl⟩ := hrel
    by_cases hlt : k < n
    · have E : Hid (IntKind.u64.wrap (128 * ((128 ^ k : Nat) : Int)) = ((128 ^ (k + 1) : Nat) : Int)) := by
        have := pow_le (j := k + 1) (by omega)
        show _ = _
        rw [Nat.pow_succ] at this ⊢
        rw [IntKind.wrap_u64]
        generalize 128 ^ k = q at *
        omega
      generalize hq : ((128 ^ k : Nat) : Int) = q
      have HQ := Lib.hid hq
      clear hq
      go_wp2
      go_round
      case rel => exact ⟨k + 1, by omega, by go_num, by rw [← HQ.out, E.out]⟩
      case measure => simp [intOf]; omega
    · obtain rfl : k = n := by omega
      generalize hq : ((128 ^ k : Nat) : Int) = q
      replace hq := Lib.hid hq
      go_wp2
      go_ret
      exact ⟨by rw [show pw k = q from hq.out]; rfl, rfl⟩

theorem cell_drawn {w wr : World} {n : Nat} {x : Addr} {v : Option Value} (hw : wr = w.drewN n) (h : w.cell? x = v) : wr.cell? x = v := by subst hw; exact h
theorem ref_join {m j : Nat} {c : Int} (h0 : 0 ≤ c) (h1 : c ≤ 255) (hm : m < 128 ^ j) (hj : j ≤ 9) (h9 : j = 9 → c ≤ 1) :
    IntKind.u64.wrap ((m : Int) + IntKind.u64.wrap (c % 128 * pw j)) = ((m + c.toNat % 128 * 128 ^ j : Nat) : Int) := by
  have hp := part_lt (c := c.toNat % 128) hj (by omega) (fun h => by have := h9 h; omega)
  have hq := pow_le hj
  have e0 : c % 128 = ((c.toNat % 128 : Nat) : Int) := by omega
  have e2 : ((c.toNat % 128 : Nat) : Int) * pw j = ((c.toNat % 128 * 128 ^ j : Nat) : Int) := by unfold pw; simp
  have e3 : IntKind.u64.wrap ((c.toNat % 128 * 128 ^ j : Nat) : Int) = ((c.toNat % 128 * 128 ^ j : Nat) : Int) := by
    rw [IntKind.wrap_u64]; omega
  rw [e0, e2, e3, IntKind.wrap_u64]
  omega
theorem three_eq {a a' b b' c : Int} (h : a = a') (h2 : b = b') : Ending.returned (.tuple #[.int .u64 a, .int .i64 b, .int .i64 c]) = Ending.returned (.tuple #[.int .u64 a', .int .i64 b', .int .i64 c]) := by rw [h, h2]
def ThreePost (r : Nat × Nat × Int) (w : World) (e : Ending) (w' : World) : Prop :=
  e = .returned (.tuple #[.int .u64 r.1, .int .i64 r.2.1, .int .i64 r.2.2]) ∧ ∃ nq, w' = w.drewN nq

set_option maxRecDepth 100000 in
set_option maxHeartbeats 400000 in
theorem refReads_number (a : Option Addr) (len cap : Nat) (zs : List Int) (w : World) (hz : Bytes w a len zs) (hc : len ≤ 9223372036854775807) :
    Calls Try.prog 19 #[.slice a len cap] w (ThreePost (rd zs 0 0) w) := by
  obtain ⟨hzl, hzb, hzc⟩ := hz
  have HZ : Hid (zs.length = len) := hzl
  have HB := Lib.hid hzb
  have HC := Lib.hid hzc
  clear hzl hzb hzc
  go_enter Try.func19, Try.ntmps19
  go_wp2
  go_loopg [5, 6] len (fun k n i wr => ∃ (j m nz : Nat), n = .int .u64 m ∧ i = .int .i64 j ∧ j ≤ 9 ∧ j ≤ len ∧ Hid (k = len - j) ∧ Hid (m < 128 ^ j) ∧ Hid (rd zs 0 0 = rd (zs.drop j) j m) ∧ Hid (wr = w.drewN nz))
  case atStart => exact ⟨0, 0, 0, rfl, rfl, by omega, by omega, rfl, show (0 : Nat) < 128 ^ 0 by decide, rfl, rfl⟩
  case round =>
    obtain ⟨j, m, nz, rfl, rfl, hj, hpj, hk, hm, hrd, hw⟩ := hrel
    by_cases hlt : j < len
    · obtain ⟨b, off, rfl, hcc⟩ := HC.out (by omega)
      have hcell := hcc j hlt
      replace hcell := cell_drawn hw.out hcell
      generalize hcv : zs.getD j 0 = c at hcell
      have HCC := Lib.hid hcc
      have HV := Lib.hid hcv
      have hc0 : 0 ≤ c ∧ c ≤ 255 := by rw [← hcv]; exact byte_at HB.out _
      obtain ⟨hc0, hc1⟩ := hc0
      clear hcc hcv
      by_cases hb : (j = 9 ∧ 1 < c) ∨ (0 < j ∧ c = 0)
      · have hrd' : rd zs 0 0 = (0, 0, 111) := by
          rw [hrd.out, drop_cons (by rw [HZ.out]; omega), HV.out, rd_bad hb]
        have HRR := Lib.hid hrd'
        have HBB := Lib.hid hb
        clear hrd' hb
        by_cases h9 : j = 9
        · have h9' : ((j : Int) == 9) = true := by simp; omega
          clear h9
          by_cases h1 : 1 < c
          · go_wp2_with fail
            go_ret3
            exact ⟨by rw [HRR.out]; rfl, nz, hw.out⟩
          · obtain rfl : c = 0 := by have := HBB.out; omega
            have hj0 : 0 < j := by have := HBB.out; omega
            go_wp2_with fail
            go_ret3
            exact ⟨by rw [HRR.out]; rfl, nz, hw.out⟩
        · have h9' : ((j : Int) == 9) = false := by simp; omega
          obtain rfl : c = 0 := by have := HBB.out; omega
          have hj0 : 0 < j := by have := HBB.out; omega
          clear h9
          go_wp2_with fail
          go_ret3
          exact ⟨by rw [HRR.out]; rfl, nz, hw.out⟩
      · have HBB := Lib.hid hb
        have H9 : Hid (j = 9 → c ≤ 1) := fun h => by omega
        clear hb
        have E := Lib.hid (ref_join hc0 hc1 hm.out hj H9.out)
        have J := Lib.hid (join_lt (c := c.toNat % 128) (by omega) hm.out)
        by_cases h9 : j = 9
        · have h9' : ((j : Int) == 9) = true := by simp; omega
          have h1 : c = 1 := by have := HBB.out; omega
          have hrd' : rd zs 0 0 = (m + c.toNat % 128 * 128 ^ j, j + 1, 0) := by
            rw [hrd.out, drop_cons (by rw [HZ.out]; omega), HV.out, rd_last HBB.out (by omega)]
          have HRR := Lib.hid hrd'
          have h1a : c ≤ 1 := by omega
          have h1b : (c == 0) = false := by simp; omega
          have h1c : c < 128 := by omega
          have hj0 : 0 < j := by omega
          clear h9 h1 hrd'
          go_wp2_with fail
          go_quiet ((go_at_call 37; exact Calls.quiet_of_same (power_any j hj _)))
          go_wp2
          go_ret3
          go_light
          exact ⟨by rw [HRR.out]; exact three_eq E.out (by show _ = ((j + 1 : Nat) : Int); omega), nz + nq, by rw [hw.out, World.drewN_drewN]⟩
        · have h9' : ((j : Int) == 9) = false := by simp; omega
          have h8 : j ≤ 8 := by omega
          clear h9
          have h1b : 0 < j → (c == 0) = false := fun h => by have := HBB.out; simp; omega
          by_cases hj0 : 0 < j
          all_goals
            try replace h1b := h1b hj0
            try clear h1b
            try replace h1b : (c == 0) = false := by have := HBB.out; simp; omega
            go_wp2_with fail
            go_quiet ((go_at_call 37; exact Calls.quiet_of_same (power_any j hj _)))
            by_cases hl : c < 128
            · have hrd' : rd zs 0 0 = (m + c.toNat % 128 * 128 ^ j, j + 1, 0) := by
                rw [hrd.out, drop_cons (by rw [HZ.out]; omega), HV.out, rd_last HBB.out (by omega)]
              replace hrd' := Lib.hid hrd'
              go_wp2
              go_ret3
              go_light
              exact ⟨by rw [hrd'.out]; exact three_eq E.out (by show _ = ((j + 1 : Nat) : Int); omega), nz + nq, by rw [hw.out, World.drewN_drewN]⟩
            · have hrd' : rd zs 0 0 = rd (zs.drop (j + 1)) (j + 1) (m + c.toNat % 128 * 128 ^ j) := by
                rw [hrd.out, drop_cons (by rw [HZ.out]; omega), HV.out, rd_more HBB.out (by omega)]
              replace hrd' := Lib.hid hrd'
              go_wp2
              go_roundg (gk - 1)
              case measure => go_light; have := hk.out; omega
              case rel =>
                go_light
                refine ⟨j + 1, m + c.toNat % 128 * 128 ^ j, nz + nq, by rw [E.out], by go_num, by omega, by omega, ?_, J.out, hrd'.out, ?_⟩
                · show gk - 1 = _
                  have := hk.out; omega
                · show _ = _
                  rw [hw.out, World.drewN_drewN]
    · obtain rfl : j = len := by omega
      go_wp2_with fail
      go_ret3
      refine ⟨?_, nz, hw.out⟩
      rw [hrd.out, List.drop_of_length_le (by rw [HZ.out]; omega), rd_end]; rfl
end Go.Proofs.Ytcdgecdcfpedfaa
