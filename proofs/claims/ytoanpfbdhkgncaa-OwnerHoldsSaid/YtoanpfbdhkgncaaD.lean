/-
  PROVED: The contract of owner's stays. CONDITIONS: none.
-/
import Derived.Test.YtoanpfbdhkgncaaC
namespace Go.Proofs.Ytoanpfbdhkgncaa
open Go.RowKit
set_option maxRecDepth 100000
set_option maxHeartbeats 1000000
/-- A seek at a node. -/
def undV (has : Bool) (k h o c me : Int) : Value := .agg #[.bool has, .int .i64 k, .int .i64 h, .int .i64 o, .int .i64 c, .int .i64 me]
theorem here_any (has : Bool) (k h o c me : Int) (w : World) : Calls Try.prog 38 #[undV has k h o c me] w fun e w' => e = .returned (.bool has) ∧ Below w.heap.size w w' := by
  unfold undV
  go_enter Try.func38, Try.ntmps38
  go_wp2
  go_ret
  exact ⟨rfl, below_new _⟩
theorem mine_any (has : Bool) (k h o c me : Int) (w : World) : Calls Try.prog 39 #[undV has k h o c me] w fun e w' => e = .returned (.bool (k == me)) ∧ Below w.heap.size w w' := by
  unfold undV
  go_enter Try.func39, Try.ntmps39
  go_wp2
  go_ret
  exact ⟨rfl, below_new _⟩
theorem back_any (has : Bool) (k h o c me : Int) (w : World) : Calls Try.prog 40 #[undV has k h o c me] w fun e w' => e = .returned (.bool (k == o)) ∧ Below w.heap.size w w' := by
  unfold undV
  go_enter Try.func40, Try.ntmps40
  go_wp2
  go_ret
  exact ⟨rfl, below_new _⟩
theorem old_any (has : Bool) (k h o c me : Int) (w : World) : Calls Try.prog 41 #[undV has k h o c me] w fun e w' => e = .returned (.bool (decide (h ≤ c))) ∧ Below w.heap.size w w' := by
  unfold undV
  go_enter Try.func41, Try.ntmps41
  go_wp2
  go_ret
  exact ⟨rfl, below_new _⟩
def fourV (u : Value) : Value := .agg #[.func (.func 38) #[u] #[], .func (.func 39) #[u] #[], .func (.func 40) #[u] #[], .func (.func 41) #[u] #[]]
theorem idxF0 (u : Value) : ∀ w, (Instr.index 75 (.agg #[.func (.func 38) #[u] #[], .func (.func 39) #[u] #[], .func (.func 40) #[u] #[], .func (.func 41) #[u] #[]]) (.int .i64 0)).run Try.prog w = .ok (.func (.func 38) #[u] #[]) w := fun _ => by kernel_rfl
theorem idxF1 (u : Value) : ∀ w, (Instr.index 75 (.agg #[.func (.func 38) #[u] #[], .func (.func 39) #[u] #[], .func (.func 40) #[u] #[], .func (.func 41) #[u] #[]]) (.int .i64 1)).run Try.prog w = .ok (.func (.func 39) #[u] #[]) w := fun _ => by kernel_rfl
theorem idxF2 (u : Value) : ∀ w, (Instr.index 75 (.agg #[.func (.func 38) #[u] #[], .func (.func 39) #[u] #[], .func (.func 40) #[u] #[], .func (.func 41) #[u] #[]]) (.int .i64 2)).run Try.prog w = .ok (.func (.func 40) #[u] #[]) w := fun _ => by kernel_rfl
theorem idxF3 (u : Value) : ∀ w, (Instr.index 75 (.agg #[.func (.func 38) #[u] #[], .func (.func 39) #[u] #[], .func (.func 40) #[u] #[], .func (.func 41) #[u] #[]]) (.int .i64 3)).run Try.prog w = .ok (.func (.func 41) #[u] #[]) w := fun _ => by kernel_rfl
theorem stays_any (has : Bool) (k h o c me : Int) (w : World) : Calls Try.prog 25 #[undV has k h o c me] w fun e w' => e = .returned (.bool (has || k == me || k == o || decide (h ≤ c))) ∧ Below w.heap.size w w' := by
  have H0 := Lib.hid (here_any has k h o c me)
  have H1 := Lib.hid (mine_any has k h o c me)
  have H2 := Lib.hid (back_any has k h o c me)
  have H3 := Lib.hid (old_any has k h o c me)
  have X0 := idxF0 (undV has k h o c me)
  have X1 := idxF1 (undV has k h o c me)
  have X2 := idxF2 (undV has k h o c me)
  have X3 := idxF3 (undV has k h o c me)
  generalize (k == me) = b1 at *
  generalize (k == o) = b2 at *
  generalize decide (h ≤ c) = b3 at *
  unfold undV at *
  go_enter Try.func25, Try.ntmps25
  go_wp2
  go_loopw [4, 14] (fun _ i wr => (i = .int .i64 0 ∨ i = .int .i64 1 ∧ has = false ∨ i = .int .i64 2 ∧ has = false ∧ b1 = false ∨ i = .int .i64 3 ∧ has = false ∧ b1 = false ∧ b2 = false ∨ i = .int .i64 4 ∧ has = false ∧ b1 = false ∧ b2 = false ∧ b3 = false) ∧ Hid (Below w.heap.size w wr)) (fun _ i _ => 4 - (intOf i).toNat)
  case atStart => exact ⟨.inl rfl, below_new _⟩
  case round =>
    obtain ⟨hi, hw⟩ := hrel
    rcases hi with rfl | ⟨rfl, h0⟩ | ⟨rfl, h0, h1⟩ | ⟨rfl, h0, h1, h2⟩ | ⟨rfl, h0, h1, h2, h3⟩
    · go_wp2_with fail
      refine (H0.out _).mono ?_
      rintro e w1 ⟨rfl, hb⟩
      have HB := Lib.hid (hw.out.trans (hb.mono hw.out.size))
      clear hb
      cases hv : has
      · subst hv
        go_wp2
        go_roundw
        case rel => exact ⟨.inr (.inl (by simp)), HB⟩
        case measure => simp [intOf]
      · subst hv
        go_wp2
        go_ret
        exact ⟨by simp, HB.out⟩
    · subst h0
      go_wp2_with fail
      refine (H1.out _).mono ?_
      rintro e w1 ⟨rfl, hb⟩
      have HB := Lib.hid (hw.out.trans (hb.mono hw.out.size))
      clear hb
      cases hv : b1
      · subst hv
        go_wp2
        go_roundw
        case rel => exact ⟨.inr (.inr (.inl (by simp))), HB⟩
        case measure => simp [intOf]
      · subst hv
        go_wp2
        go_ret
        exact ⟨by simp, HB.out⟩
    · subst h0 h1
      go_wp2_with fail
      refine (H2.out _).mono ?_
      rintro e w1 ⟨rfl, hb⟩
      have HB := Lib.hid (hw.out.trans (hb.mono hw.out.size))
      clear hb
      cases hv : b2
      · subst hv
        go_wp2
        go_roundw
        case rel => exact ⟨.inr (.inr (.inr (.inl (by simp)))), HB⟩
        case measure => simp [intOf]
      · subst hv
        go_wp2
        go_ret
        exact ⟨by simp, HB.out⟩
    · subst h0 h1 h2
      go_wp2_with fail
      refine (H3.out _).mono ?_
      rintro e w1 ⟨rfl, hb⟩
      have HB := Lib.hid (hw.out.trans (hb.mono hw.out.size))
      clear hb
      cases hv : b3
      · subst hv
        go_wp2
        go_roundw
        case rel => exact ⟨.inr (.inr (.inr (.inr (by simp)))), HB⟩
        case measure => simp [intOf]
      · subst hv
        go_wp2
        go_ret
        exact ⟨by simp, HB.out⟩
    · subst h0 h1 h2 h3
      go_wp2
      go_ret
      exact ⟨rfl, hw.out⟩
end Go.Proofs.Ytoanpfbdhkgncaa
