/-
  PROVED: The contract of owner's right. CONDITIONS: none.
-/
import Derived.Test.YtoanpfbdhkgncaaB
namespace Go.Proofs.Ytoanpfbdhkgncaa
open Go.RowKit
set_option maxRecDepth 100000
set_option maxHeartbeats 1000000
/-- A guess. -/
structure Ow where
  node : Int
  hop : Int
deriving DecidableEq
def Ow.val (x : Ow) : Value := .agg #[.int .i64 x.node, .int .i64 x.hop]
def ownOk (n l s : Int) (x : Ow) : Bool := shapeOk n l s && nodeOk n x.node && hopOk x.hop
theorem ints_new (w : World) (k : Int) (g : Nat) (hg : w.heap.size = g) : Ints (w.alloc (.cells #[.int .i64 k] 3)) (.slice (some ⟨g, 0, none⟩) 1 1) [k] := by
  subst hg
  exact ⟨_, _, rfl, by simp, fun _ => ⟨_, _, rfl, fun i hi => by
    obtain rfl : i = 0 := by simpa using hi
    simp⟩⟩
theorem right_own (n l s : Int) (x : Ow) (w : World) : Calls Try.prog 22 #[shapeV n l s, x.val] w fun e w' => e = .returned (.bool (ownOk n l s x)) ∧ Below w.heap.size w w' := by
  obtain ⟨k, h⟩ := x
  have HT := Lib.hid (fun v w hv => there_any n l s v [k] w hv)
  simp only [List.all_cons, List.all_nil, Bool.and_true] at HT
  simp only [ownOk]
  generalize (shapeOk n l s && nodeOk n k) = b at *
  have HH := Lib.hid (hop_any h)
  generalize hopOk h = c at *
  simp only [Ow.val, shapeV] at *
  go_enter Try.func22, Try.ntmps22
  go_wp2_with fail
  refine (HT.out _ _ (ints_new _ _ _ (by simp))).mono ?_
  rintro e w1 ⟨rfl, hb⟩
  have q1 : w1.cell? ⟨w.heap.size + 1, 1, none⟩ = some (.int .i64 h) := by rw [hb.cell (p := ⟨w.heap.size + 1, 1, none⟩) (show w.heap.size + 1 < _ by simp)]; exact ((below_new _).cell (p := ⟨w.heap.size + 1, 1, none⟩) (show w.heap.size + 1 < _ by simp)).trans (by simp)
  have HB := Lib.hid ((((below_new _).alloc (by simp) _).alloc (by simp; omega) _).trans (hb.mono (by simp; omega)))
  clear hb
  cases b <;> cases c
  all_goals
    go_wp2_with (go_at_call 24; refine (HH.out _).mono ?_; rintro e w' ⟨rfl, rfl⟩)
    go_ret
    exact ⟨rfl, HB.out⟩
end Go.Proofs.Ytoanpfbdhkgncaa
