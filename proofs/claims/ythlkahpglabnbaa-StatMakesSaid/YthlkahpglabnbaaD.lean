/-
  PROVED: The contract of a status's may: its three numbers lie between their bounds. CONDITIONS: none.
-/
import Derived.Test.YthlkahpglabnbaaC
namespace Go.Proofs.Ythlkahpglabnbaa
open Go.RowKit
set_option maxRecDepth 100000
set_option maxHeartbeats 1000000
/-- A status: its uses over; whether one is pending, its mode, its priority. -/
structure St where
  over : Int
  pend : Bool
  mode : Int
  prio : Int
deriving DecidableEq
def St.cells (x : St) : List Value := [.int .i64 x.over, .bool x.pend, .int .i64 x.mode, .int .i64 x.prio]
def St.val (x : St) : Value := .agg #[.int .i64 x.over, .bool x.pend, .int .i64 x.mode, .int .i64 x.prio]
/-- May a status be? -/
def St.ok (x : St) : Bool :=
  if x.pend then decide (0 ≤ x.over) && decide (x.over ≤ 1099511627775) && (decide (1 ≤ x.mode) && decide (x.mode ≤ 5)) && (decide (0 ≤ x.prio) && decide (x.prio ≤ 3))
  else decide (0 ≤ x.over) && decide (x.over ≤ 1099511627776) && (decide (x.mode = 0)) && (decide (x.prio = 0))
def boundsV (a b c d e f g h i : Int) : Value := .agg #[.int .i64 a, .int .i64 b, .int .i64 c, .int .i64 d, .int .i64 e, .int .i64 f, .int .i64 g, .int .i64 h, .int .i64 i]
theorem bounds_any (x : St) (w : World) : Calls Try.prog 33 #[x.val] w fun e w' =>
    e = .returned (if x.pend then boundsV x.over 0 1099511627775 x.mode 1 5 x.prio 0 3 else boundsV x.over 0 1099511627776 x.mode 0 0 x.prio 0 0) ∧ Below w.heap.size w w' := by
  obtain ⟨o, p, m, r⟩ := x
  simp only [St.val]
  cases p
  · go_enter Try.func33, Try.ntmps33
    go_wp2
    refine bodyPost_ret (v := boundsV o 0 1099511627776 m 0 0 r 0 0) (by simp [results, Try.results33, go_sem, boundsV]) rfl ⟨rfl, ?_⟩
    exact ((below_new _).alloc (by simp) _)
  · go_enter Try.func33, Try.ntmps33
    go_wp2
    refine bodyPost_ret (v := boundsV o 0 1099511627775 m 1 5 r 0 3) (by simp [results, Try.results33, go_sem, boundsV]) rfl ⟨rfl, ?_⟩
    exact ((below_new _).alloc (by simp) _)
theorem idxB0 (a b c d e f g h i : Int) : ∀ w, (Instr.index 69 (.agg #[.int .i64 a, .int .i64 b, .int .i64 c, .int .i64 d, .int .i64 e, .int .i64 f, .int .i64 g, .int .i64 h, .int .i64 i]) (.int .i64 0)).run Try.prog w = .ok (.agg #[.int .i64 a, .int .i64 b, .int .i64 c]) w := fun _ => by kernel_rfl
theorem idxB1 (a b c d e f g h i : Int) : ∀ w, (Instr.index 69 (.agg #[.int .i64 a, .int .i64 b, .int .i64 c, .int .i64 d, .int .i64 e, .int .i64 f, .int .i64 g, .int .i64 h, .int .i64 i]) (.int .i64 1)).run Try.prog w = .ok (.agg #[.int .i64 d, .int .i64 e, .int .i64 f]) w := fun _ => by kernel_rfl
theorem idxB2 (a b c d e f g h i : Int) : ∀ w, (Instr.index 69 (.agg #[.int .i64 a, .int .i64 b, .int .i64 c, .int .i64 d, .int .i64 e, .int .i64 f, .int .i64 g, .int .i64 h, .int .i64 i]) (.int .i64 2)).run Try.prog w = .ok (.agg #[.int .i64 g, .int .i64 h, .int .i64 i]) w := fun _ => by kernel_rfl
/-- The walk of may, whatever the bounds. -/
theorem may_walk (x : St) (a b c d e f g h i : Int) (R : Bool) (hR : R = (decide (b ≤ a ∧ a ≤ c) && decide (e ≤ d ∧ d ≤ f) && decide (h ≤ g ∧ g ≤ i))) (w : World) (hB : ∀ w, Calls Try.prog 33 #[x.val] w fun e' w' => e' = .returned (boundsV a b c d e f g h i) ∧ Below w.heap.size w w') :
    Calls Try.prog 26 #[x.val] w fun e' w' => e' = .returned (.bool R) ∧ Below w.heap.size w w' := by
  have HB := Lib.hid hB
  have HR := Lib.hid hR
  clear hB hR
  obtain ⟨o, p, m, r⟩ := x
  simp only [St.val, boundsV] at *
  go_enter Try.func26, Try.ntmps26
  go_wp2_with fail
  refine (HB.out _).mono ?_
  rintro e' w1 ⟨rfl, hb⟩
  have HB1 := Lib.hid ((below_new _).trans (hb.mono (by simp)))
  clear hb
  go_wp2
  go_loopw [4, 7] (fun _ k wr => (k = .int .i64 0 ∨ k = .int .i64 1 ∧ (b ≤ a ∧ a ≤ c) ∨ k = .int .i64 2 ∧ (b ≤ a ∧ a ≤ c) ∧ (e ≤ d ∧ d ≤ f) ∨ k = .int .i64 3 ∧ (b ≤ a ∧ a ≤ c) ∧ (e ≤ d ∧ d ≤ f) ∧ (h ≤ g ∧ g ≤ i)) ∧ Hid (Below w.heap.size w wr)) (fun _ k _ => 3 - (intOf k).toNat)
  case atStart => exact ⟨.inl rfl, HB1⟩
  case round =>
    obtain ⟨hk, hw⟩ := hrel
    have hws := hw.out.size
    rcases hk with rfl | ⟨rfl, h0⟩ | ⟨rfl, h0, h1⟩ | ⟨rfl, h0, h1, h2⟩
    · have ix := idxB0 a b c d e f g h i
      by_cases hc1 : b ≤ a
      · by_cases hc2 : a ≤ c
        · go_wp2
          go_roundw
          case rel => exact ⟨.inr (.inl ⟨rfl, hc1, hc2⟩), hw.out.alloc hws _⟩
          case measure => simp [intOf]
        · go_wp2
          go_ret
          exact ⟨by rw [HR.out, decide_eq_false (p := b ≤ a ∧ a ≤ c) (by omega)]; rfl, hw.out.alloc hws _⟩
      · go_wp2
        go_ret
        exact ⟨by rw [HR.out, decide_eq_false (p := b ≤ a ∧ a ≤ c) (by omega)]; rfl, hw.out.alloc hws _⟩
    · have ix := idxB1 a b c d e f g h i
      by_cases hc1 : e ≤ d
      · by_cases hc2 : d ≤ f
        · go_wp2
          go_roundw
          case rel => exact ⟨.inr (.inr (.inl ⟨rfl, h0, hc1, hc2⟩)), hw.out.alloc hws _⟩
          case measure => simp [intOf]
        · go_wp2
          go_ret
          exact ⟨by rw [HR.out, decide_eq_true h0, decide_eq_false (p := e ≤ d ∧ d ≤ f) (by omega)]; rfl, hw.out.alloc hws _⟩
      · go_wp2
        go_ret
        exact ⟨by rw [HR.out, decide_eq_true h0, decide_eq_false (p := e ≤ d ∧ d ≤ f) (by omega)]; rfl, hw.out.alloc hws _⟩
    · have ix := idxB2 a b c d e f g h i
      by_cases hc1 : h ≤ g
      · by_cases hc2 : g ≤ i
        · go_wp2
          go_roundw
          case rel => exact ⟨.inr (.inr (.inr ⟨rfl, h0, h1, hc1, hc2⟩)), hw.out.alloc hws _⟩
          case measure => simp [intOf]
        · go_wp2
          go_ret
          exact ⟨by rw [HR.out, decide_eq_true h0, decide_eq_true h1, decide_eq_false (p := h ≤ g ∧ g ≤ i) (by omega)]; rfl, hw.out.alloc hws _⟩
      · go_wp2
        go_ret
        exact ⟨by rw [HR.out, decide_eq_true h0, decide_eq_true h1, decide_eq_false (p := h ≤ g ∧ g ≤ i) (by omega)]; rfl, hw.out.alloc hws _⟩
    · go_wp2
      go_ret
      exact ⟨by rw [HR.out, decide_eq_true h0, decide_eq_true h1, decide_eq_true h2]; rfl, hw.out⟩
end Go.Proofs.Ythlkahpglabnbaa
