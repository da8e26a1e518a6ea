/-
  PROVED: Contracts of site.Check and what it calls. CONDITIONS: none besides.
-/
import Derived.Test.YtoanpfbdhkgncaaProg
import Derived.WalkKit
import Derived.WalkSpells
import Derived.WalkLawsBesides
import Derived.ProofKit
import Derived.Below
import Derived.Lib.Hide
import Derived.Lib.QuietBelow
import Derived.Deep.Light
import Derived.Deep.DeepCutAuto
namespace Go.Proofs.Ytoanpfbdhkgncaa
open Go.RowKit
/-- A shape's value. -/
def shapeV (n l s : Int) : Value := .agg #[.int .i64 n, .int .i64 l, .int .i64 s]
/-- May a shape be? -/
def shapeOk (n l s : Int) : Bool := decide (1 ≤ n) && decide (n ≤ 64) && (decide (1 ≤ l) && decide (l ≤ 8)) && (decide (1 ≤ s) && decide (s ≤ 4))
set_option maxRecDepth 100000
set_option maxHeartbeats 400000

theorem within_any (a b c : Int) (w : World) : Calls Try.prog 52 #[.int .i64 a, .int .i64 b, .int .i64 c] w fun e w' => e = .returned (.bool (decide (b ≤ a) && decide (a ≤ c))) ∧ w' = w := by
  by_cases h1 : b ≤ a
  · by_cases h2 : a ≤ c
    · go_enter Try.func52, Try.ntmps52
      go_wp2
      go_ret
      exact ⟨by simp [h1, h2], rfl⟩
    · go_enter Try.func52, Try.ntmps52
      go_wp2
      go_ret
      exact ⟨by simp [h1, h2], rfl⟩
  · go_enter Try.func52, Try.ntmps52
    go_wp2
    go_ret
    exact ⟨by simp; omega, rfl⟩

theorem below_new {w : World} (o : Obj) : Below w.heap.size w (w.alloc o) := (Below.refl _ w).alloc (Nat.le_refl _) _
theorem right_any (n l s : Int) (w : World) : Calls Try.prog 49 #[shapeV n l s] w fun e w' => e = .returned (.bool (shapeOk n l s)) ∧ Below w.heap.size w w' := by
  have e : shapeOk n l s = ((decide (1 ≤ n) && decide (n ≤ 64)) && (decide (1 ≤ l) && decide (l ≤ 8)) && (decide (1 ≤ s) && decide (s ≤ 4))) := rfl
  unfold shapeV
  cases hn' : (decide (1 ≤ n) && decide (n ≤ 64))
  all_goals cases hl' : (decide (1 ≤ l) && decide (l ≤ 8))
  all_goals cases hs' : (decide (1 ≤ s) && decide (s ≤ 4))
  all_goals
        rw [hn', hl', hs'] at e
        go_enter Try.func49, Try.ntmps49
        go_wp2_with (go_at_call 52; refine (within_any _ _ _ _).mono ?_; rintro e w' ⟨he, rfl⟩; (first | rw [hn'] at he | rw [hl'] at he | rw [hs'] at he); subst he)
        go_ret
        exact ⟨by rw [e]; rfl, below_new _⟩
theorem index0 (w : World) (f : Value) : Calls Try.prog 53 #[.slice none 0 0, f] w fun e w' => e = .returned (.int .i64 (-1)) ∧ w' = w := by
  go_enter Try.func53, Try.ntmps53
  go_wp2
  go_loopw [8] (fun i wr => i = .int .i64 0 ∧ wr = w) (fun _ _ => 0)
  case atStart => exact ⟨rfl, rfl⟩
  case round =>
    obtain ⟨rfl, rfl⟩ := hrel
    go_wp2
    go_ret
    exact ⟨rfl, rfl⟩
theorem asked0 (w : World) (f : Value) : Calls Try.prog 50 #[.slice none 0 0, f] w fun e w' => e = .returned (.bool false) ∧ w' = w := by
  go_enter Try.func50, Try.ntmps50
  go_wp2_with (go_at_call 53; refine (index0 _ _).mono ?_; rintro e w' ⟨rfl, rfl⟩)
  go_ret
  exact ⟨rfl, rfl⟩
/-- The error's number of a shape. -/
def shapeNo (n l s : Int) : Int := if shapeOk n l s then 0 else 2
/-- At the label 'wrong': an error's number. -/
def AtWrong (w : World) (no : Int) (b : Bool) (f : Act) (w' : World) : Prop :=
  (∃ (u0 u1 u2 u3 u5 u6 u7 u8 u9 u10 u11 : Value), f = { tmps := #[u0, u1, u2, u3, .int .i64 no, u5, u6, u7, u8, u9, u10, u11], defers := [] }) ∧ Below w.heap.size w w' ∧ b = true
theorem asked_any (n l s : Int) (w : World) : Calls Try.prog 45 #[shapeV n l s, .slice none 0 0] w fun e w' => e = .returned (.int .i64 (shapeNo n l s)) ∧ Below w.heap.size w w' := by
  have hr := right_any n l s
  unfold shapeV at *
  unfold shapeNo
  cases hok : shapeOk n l s
  all_goals
    rw [hok] at hr
    have HR := Lib.hid hr
    clear hr
    go_enter Try.func45, Try.ntmps45
    go_wp2
    refine wp_scope_jumps 0 (AtWrong w 2 (!shapeOk n l s)) (fun _ _ => 0) rfl ?_ ?_
    · go_wp2_with fail
      refine (HR.out _).mono ?_
      rintro e w1 ⟨rfl, hb⟩
      have HB := Lib.hid ((below_new _).trans (hb.mono (by simp)))
      have HK := Lib.hid hok
      clear hb hok
      go_wp2_with (first | (go_at_call 50; refine (asked0 _ _).mono ?_; rintro e w' ⟨rfl, rfl⟩) | fail)
      first
        | (simp only [Exit.jump]
           go_ret
           exact ⟨rfl, HB.out⟩)
        | (go_step3
           go_light
           simp only [Exit.then, Exit.inBlock, Exit.jump, true_and]
           exact ⟨⟨_, _, _, _, _, _, _, _, _, _, _, rfl⟩, HB.out, by rw [HK.out]; rfl⟩)
    · rintro f w' ⟨⟨u0, u1, u2, u3, u5, u6, u7, u8, u9, u10, u11, rfl⟩, hb, hk⟩
      have HB := Lib.hid hb
      rw [hok] at hk
      clear hb hok
      first
        | (cases hk; done)
        | (clear hk
           go_wp2
           simp only [Exit.jump]
           go_ret
           exact ⟨rfl, HB.out⟩)
theorem grown_of_below {w w' : World} (h : Below w.heap.size w w') : w.grownBy w' none := ⟨h.os, h.tape, h.output, h.size, fun i hi _ => h.block i hi⟩
theorem check_any (n l s : Int) (w : World) : Calls Try.prog 35 #[shapeV n l s] w fun e w' => e = .returned (.int .i64 (shapeNo n l s)) ∧ Below w.heap.size w w' := by
  have hr := asked_any n l s
  generalize shapeNo n l s = r at *
  have HR := Lib.hid hr
  clear hr
  unfold shapeV at *
  go_enter Try.func35, Try.ntmps35
  go_wp2_with fail
  refine (HR.out _).mono ?_
  rintro e w1 ⟨rfl, hb⟩
  have HB := Lib.hid ((below_new _).trans (hb.mono (by simp)))
  clear hb
  go_wp2
  go_ret
  exact ⟨rfl, HB.out⟩
end Go.Proofs.Ytoanpfbdhkgncaa
