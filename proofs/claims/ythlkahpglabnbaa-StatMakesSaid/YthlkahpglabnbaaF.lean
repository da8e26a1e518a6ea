/-
  PROVED: The contracts of the reference's Shape and Right. CONDITIONS: none.
-/
import Derived.Test.YthlkahpglabnbaaE
namespace Go.Proofs.Ythlkahpglabnbaa
open Go.RowKit
set_option maxRecDepth 100000
set_option maxHeartbeats 1000000
theorem mode_any (m : Int) (w : World) (h0 : 0 ≤ m) (h1 : m ≤ 5) : Calls Try.prog 27 #[.int .i64 m] w fun e w' => e = .returned (.bool true) ∧ w' = w := by
  go_enter Try.func27, Try.ntmps27
  go_wp2
  go_ret
  exact ⟨rfl, rfl⟩
theorem mode_no (m : Int) (w : World) (h0 : ¬ (0 ≤ m ∧ m ≤ 5)) : Calls Try.prog 27 #[.int .i64 m] w fun e w' => e = .returned (.bool false) ∧ w' = w := by
  by_cases h : 0 ≤ m
  · have : ¬ m ≤ 5 := by omega
    go_enter Try.func27, Try.ntmps27
    go_wp2
    go_ret
    exact ⟨rfl, rfl⟩
  · go_enter Try.func27, Try.ntmps27
    go_wp2
    go_ret
    exact ⟨rfl, rfl⟩
theorem refShape_any (n l s : Int) (w : World) : Calls Try.prog 18 #[shapeV n l s] w fun e w' => e = .returned (.bool (shapeOk n l s)) ∧ Below w.heap.size w w' := by
  unfold shapeV
  by_cases hc0 : 1 ≤ n
  · by_cases hc1 : n ≤ 64
    · by_cases hc2 : 1 ≤ l
      · by_cases hc3 : l ≤ 8
        · by_cases hc4 : 1 ≤ s
          · by_cases hc5 : s ≤ 4
            · have e : shapeOk n l s = true := by simp [shapeOk, *]; try omega
              rw [e]
              clear e
              go_enter Try.func18, Try.ntmps18
              go_wp2
              go_ret
              exact ⟨by first | rfl | (simp_all; done) | (simp_all; omega), below_new _⟩
            · have e : shapeOk n l s = false := by simp [shapeOk, *]; try omega
              rw [e]
              clear e
              go_enter Try.func18, Try.ntmps18
              go_wp2
              go_ret
              exact ⟨by first | rfl | (simp_all; done) | (simp_all; omega), below_new _⟩
          · have e : shapeOk n l s = false := by simp [shapeOk, *]; try omega
            rw [e]
            clear e
            go_enter Try.func18, Try.ntmps18
            go_wp2
            go_ret
            exact ⟨by first | rfl | (simp_all; done) | (simp_all; omega), below_new _⟩
        · have e : shapeOk n l s = false := by simp [shapeOk, *]; try omega
          rw [e]
          clear e
          go_enter Try.func18, Try.ntmps18
          go_wp2
          go_ret
          exact ⟨by first | rfl | (simp_all; done) | (simp_all; omega), below_new _⟩
      · have e : shapeOk n l s = false := by simp [shapeOk, *]; try omega
        rw [e]
        clear e
        go_enter Try.func18, Try.ntmps18
        go_wp2
        go_ret
        exact ⟨by first | rfl | (simp_all; done) | (simp_all; omega), below_new _⟩
    · have e : shapeOk n l s = false := by simp [shapeOk, *]; try omega
      rw [e]
      clear e
      go_enter Try.func18, Try.ntmps18
      go_wp2
      go_ret
      exact ⟨by first | rfl | (simp_all; done) | (simp_all; omega), below_new _⟩
  · have e : shapeOk n l s = false := by simp [shapeOk, *]; try omega
    rw [e]
    clear e
    go_enter Try.func18, Try.ntmps18
    go_wp2
    go_ret
    exact ⟨by first | rfl | (simp_all; done) | (simp_all; omega), below_new _⟩
theorem refRight_any (x : St) (w : World) : Calls Try.prog 15 #[x.val] w fun e w' => e = .returned (.bool x.ok) ∧ Below w.heap.size w w' := by
  obtain ⟨o, p, m, r⟩ := x
  simp only [St.val]
  cases p
  · by_cases hc0 : 0 ≤ o
    · by_cases hc1 : o ≤ 1099511627776
      · by_cases hc2 : m = 0
        · by_cases hc3 : r = 0
          · have e : St.ok ⟨o, false, m, r⟩ = true := by simp [St.ok, *]; try omega
            rw [e]
            clear e
            go_enter Try.func15, Try.ntmps15
            go_wp2
            go_ret
            exact ⟨by first | rfl | (simp_all; done) | (simp_all; omega), below_new _⟩
          · have e : St.ok ⟨o, false, m, r⟩ = false := by simp [St.ok, *]; try omega
            rw [e]
            clear e
            go_enter Try.func15, Try.ntmps15
            go_wp2
            go_ret
            exact ⟨by first | rfl | (simp_all; done) | (simp_all; omega), below_new _⟩
        · have e : St.ok ⟨o, false, m, r⟩ = false := by simp [St.ok, *]; try omega
          rw [e]
          clear e
          go_enter Try.func15, Try.ntmps15
          go_wp2
          go_ret
          exact ⟨by first | rfl | (simp_all; done) | (simp_all; omega), below_new _⟩
      · have e : St.ok ⟨o, false, m, r⟩ = false := by simp [St.ok, *]; try omega
        rw [e]
        clear e
        go_enter Try.func15, Try.ntmps15
        go_wp2
        go_ret
        exact ⟨by first | rfl | (simp_all; done) | (simp_all; omega), below_new _⟩
    · have e : St.ok ⟨o, false, m, r⟩ = false := by simp [St.ok, *]; try omega
      rw [e]
      clear e
      go_enter Try.func15, Try.ntmps15
      go_wp2
      go_ret
      exact ⟨by first | rfl | (simp_all; done) | (simp_all; omega), below_new _⟩
  · by_cases hc0 : 0 ≤ o
    · by_cases hc1 : o ≤ 1099511627776
      · by_cases hc2 : o < 1099511627776
        · by_cases hc3 : m ≠ 0
          · by_cases hc4 : 0 ≤ m ∧ m ≤ 5
            · by_cases hc5 : 0 ≤ r
              · by_cases hc6 : r ≤ 3
                · have e : St.ok ⟨o, true, m, r⟩ = true := by simp [St.ok, *]; try omega
                  rw [e]
                  clear e
                  go_enter Try.func15, Try.ntmps15
                  go_wp2_with (go_at_call 27; (first | refine (mode_any _ _ (by omega) (by omega)).mono ?_ | refine (mode_no _ _ (by omega)).mono ?_); rintro e w' ⟨rfl, rfl⟩)
                  go_ret
                  exact ⟨by first | rfl | (simp_all; done) | (simp_all; omega), below_new _⟩
                · have e : St.ok ⟨o, true, m, r⟩ = false := by simp [St.ok, *]; try omega
                  rw [e]
                  clear e
                  go_enter Try.func15, Try.ntmps15
                  go_wp2_with (go_at_call 27; (first | refine (mode_any _ _ (by omega) (by omega)).mono ?_ | refine (mode_no _ _ (by omega)).mono ?_); rintro e w' ⟨rfl, rfl⟩)
                  go_ret
                  exact ⟨by first | rfl | (simp_all; done) | (simp_all; omega), below_new _⟩
              · have e : St.ok ⟨o, true, m, r⟩ = false := by simp [St.ok, *]; try omega
                rw [e]
                clear e
                go_enter Try.func15, Try.ntmps15
                go_wp2_with (go_at_call 27; (first | refine (mode_any _ _ (by omega) (by omega)).mono ?_ | refine (mode_no _ _ (by omega)).mono ?_); rintro e w' ⟨rfl, rfl⟩)
                go_ret
                exact ⟨by first | rfl | (simp_all; done) | (simp_all; omega), below_new _⟩
            · have e : St.ok ⟨o, true, m, r⟩ = false := by simp [St.ok, *]; try omega
              rw [e]
              clear e
              go_enter Try.func15, Try.ntmps15
              go_wp2_with (go_at_call 27; (first | refine (mode_any _ _ (by omega) (by omega)).mono ?_ | refine (mode_no _ _ (by omega)).mono ?_); rintro e w' ⟨rfl, rfl⟩)
              go_ret
              exact ⟨by first | rfl | (simp_all; done) | (simp_all; omega), below_new _⟩
          · have e : St.ok ⟨o, true, m, r⟩ = false := by simp [St.ok, *]; try omega
            rw [e]
            clear e
            go_enter Try.func15, Try.ntmps15
            go_wp2_with (go_at_call 27; (first | refine (mode_any _ _ (by omega) (by omega)).mono ?_ | refine (mode_no _ _ (by omega)).mono ?_); rintro e w' ⟨rfl, rfl⟩)
            go_ret
            exact ⟨by first | rfl | (simp_all; done) | (simp_all; omega), below_new _⟩
        · have e : St.ok ⟨o, true, m, r⟩ = false := by simp [St.ok, *]; try omega
          rw [e]
          clear e
          go_enter Try.func15, Try.ntmps15
          go_wp2_with (go_at_call 27; (first | refine (mode_any _ _ (by omega) (by omega)).mono ?_ | refine (mode_no _ _ (by omega)).mono ?_); rintro e w' ⟨rfl, rfl⟩)
          go_ret
          exact ⟨by first | rfl | (simp_all; done) | (simp_all; omega), below_new _⟩
      · have e : St.ok ⟨o, true, m, r⟩ = false := by simp [St.ok, *]; try omega
        rw [e]
        clear e
        go_enter Try.func15, Try.ntmps15
        go_wp2_with (go_at_call 27; (first | refine (mode_any _ _ (by omega) (by omega)).mono ?_ | refine (mode_no _ _ (by omega)).mono ?_); rintro e w' ⟨rfl, rfl⟩)
        go_ret
        exact ⟨by first | rfl | (simp_all; done) | (simp_all; omega), below_new _⟩
    · have e : St.ok ⟨o, true, m, r⟩ = false := by simp [St.ok, *]; try omega
      rw [e]
      clear e
      go_enter Try.func15, Try.ntmps15
      go_wp2_with (go_at_call 27; (first | refine (mode_any _ _ (by omega) (by omega)).mono ?_ | refine (mode_no _ _ (by omega)).mono ?_); rintro e w' ⟨rfl, rfl⟩)
      go_ret
      exact ⟨by first | rfl | (simp_all; done) | (simp_all; omega), below_new _⟩
end Go.Proofs.Ythlkahpglabnbaa
