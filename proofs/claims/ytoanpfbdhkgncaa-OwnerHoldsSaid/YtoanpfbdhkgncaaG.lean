/-
  PROVED: The contracts of the references' Shape, node, hop, Right and On. CONDITIONS: none.
-/
import Derived.Test.YtoanpfbdhkgncaaF
namespace Go.Proofs.Ytoanpfbdhkgncaa
open Go.RowKit
set_option maxRecDepth 100000
set_option maxHeartbeats 2000000
theorem refShape_any (n l s : Int) (w : World) : Calls Try.prog 29 #[shapeV n l s] w fun e w' => e = .returned (.bool (shapeOk n l s)) ∧ Below w.heap.size w w' := by
  unfold shapeV
  by_cases hc0 : 1 ≤ n
  · by_cases hc1 : n ≤ 64
    · by_cases hc2 : 1 ≤ l
      · by_cases hc3 : l ≤ 8
        · by_cases hc4 : 1 ≤ s
          · by_cases hc5 : s ≤ 4
            · have e : shapeOk n l s = true := by simp [shapeOk, *]; try omega
              rw [e]
              clear e
              go_enter Try.func29, Try.ntmps29
              go_wp2
              go_ret
              exact ⟨by first | rfl | (simp_all; done) | (simp_all; omega), below_new _⟩
            · have e : shapeOk n l s = false := by simp [shapeOk, *]; try omega
              rw [e]
              clear e
              go_enter Try.func29, Try.ntmps29
              go_wp2
              go_ret
              exact ⟨by first | rfl | (simp_all; done) | (simp_all; omega), below_new _⟩
          · have e : shapeOk n l s = false := by simp [shapeOk, *]; try omega
            rw [e]
            clear e
            go_enter Try.func29, Try.ntmps29
            go_wp2
            go_ret
            exact ⟨by first | rfl | (simp_all; done) | (simp_all; omega), below_new _⟩
        · have e : shapeOk n l s = false := by simp [shapeOk, *]; try omega
          rw [e]
          clear e
          go_enter Try.func29, Try.ntmps29
          go_wp2
          go_ret
          exact ⟨by first | rfl | (simp_all; done) | (simp_all; omega), below_new _⟩
      · have e : shapeOk n l s = false := by simp [shapeOk, *]; try omega
        rw [e]
        clear e
        go_enter Try.func29, Try.ntmps29
        go_wp2
        go_ret
        exact ⟨by first | rfl | (simp_all; done) | (simp_all; omega), below_new _⟩
    · have e : shapeOk n l s = false := by simp [shapeOk, *]; try omega
      rw [e]
      clear e
      go_enter Try.func29, Try.ntmps29
      go_wp2
      go_ret
      exact ⟨by first | rfl | (simp_all; done) | (simp_all; omega), below_new _⟩
  · have e : shapeOk n l s = false := by simp [shapeOk, *]; try omega
    rw [e]
    clear e
    go_enter Try.func29, Try.ntmps29
    go_wp2
    go_ret
    exact ⟨by first | rfl | (simp_all; done) | (simp_all; omega), below_new _⟩
theorem refNode_any (n l s k : Int) (w : World) : Calls Try.prog 26 #[shapeV n l s, .int .i64 k] w fun e w' => e = .returned (.bool (nodeOk n k)) ∧ Below w.heap.size w w' := by
  unfold shapeV
  by_cases hc0 : 0 ≤ k
  · by_cases hc1 : k < n
    · have e : nodeOk n k = true := by simp [nodeOk, *]; try omega
      rw [e]
      clear e
      go_enter Try.func26, Try.ntmps26
      go_wp2
      go_ret
      exact ⟨by first | rfl | (simp_all; done) | (simp_all; omega), below_new _⟩
    · have e : nodeOk n k = false := by simp [nodeOk, *]; try omega
      rw [e]
      clear e
      go_enter Try.func26, Try.ntmps26
      go_wp2
      go_ret
      exact ⟨by first | rfl | (simp_all; done) | (simp_all; omega), below_new _⟩
  · have e : nodeOk n k = false := by simp [nodeOk, *]; try omega
    rw [e]
    clear e
    go_enter Try.func26, Try.ntmps26
    go_wp2
    go_ret
    exact ⟨by first | rfl | (simp_all; done) | (simp_all; omega), below_new _⟩
theorem refHop_any (h : Int) (w : World) : Calls Try.prog 27 #[.int .i64 h] w fun e w' => e = .returned (.bool (hopOk h)) ∧ w' = w := by
  by_cases hc0 : 0 ≤ h
  · by_cases hc1 : h ≤ 1099511627776
    · have e : hopOk h = true := by simp [hopOk, *]; try omega
      rw [e]
      clear e
      go_enter Try.func27, Try.ntmps27
      go_wp2
      go_ret
      exact ⟨by first | rfl | (simp_all; done) | (simp_all; omega), rfl⟩
    · have e : hopOk h = false := by simp [hopOk, *]; try omega
      rw [e]
      clear e
      go_enter Try.func27, Try.ntmps27
      go_wp2
      go_ret
      exact ⟨by first | rfl | (simp_all; done) | (simp_all; omega), rfl⟩
  · have e : hopOk h = false := by simp [hopOk, *]; try omega
    rw [e]
    clear e
    go_enter Try.func27, Try.ntmps27
    go_wp2
    go_ret
    exact ⟨by first | rfl | (simp_all; done) | (simp_all; omega), rfl⟩
theorem refRight_any (n l s : Int) (x : Ow) (w : World) : Calls Try.prog 19 #[shapeV n l s, x.val] w fun e w' => e = .returned (.bool (ownOk n l s x)) ∧ Below w.heap.size w w' := by
  obtain ⟨k, h⟩ := x
  have HA := Lib.hid (refShape_any n l s)
  have HB := Lib.hid (refNode_any n l s k)
  have HC := Lib.hid (refHop_any h)
  simp only [ownOk, Ow.val, shapeV] at *
  generalize shapeOk n l s = a at *
  generalize nodeOk n k = b at *
  generalize hopOk h = c at *
  cases a
  · go_enter Try.func19, Try.ntmps19
    go_wp2_with fail
    refine (HA.out _).mono ?_
    rintro e w1 ⟨rfl, hb⟩
    have P := Lib.hid (heap_call hb (heap_old (heap_new (W := w) rfl)))
    have Q : Hid (w1.heap[w.heap.size + 1]? = some (.cells #[.int .i64 k, .int .i64 h] 25)) := heap_call hb (heap_new (by simp))
    have HB1 := Lib.hid (((below_new _).alloc (by simp) _).trans (hb.mono (by simp; omega)))
    have p0 : w1.cell? ⟨w.heap.size, 0, none⟩ = some (.int .i64 n) := cell_of P.out 0
    have p1 : w1.cell? ⟨w.heap.size, 1, none⟩ = some (.int .i64 l) := cell_of P.out 1
    have p2 : w1.cell? ⟨w.heap.size, 2, none⟩ = some (.int .i64 s) := cell_of P.out 2
    have q0 : w1.cell? ⟨w.heap.size + 1, 0, none⟩ = some (.int .i64 k) := cell_of Q.out 0
    clear hb
    go_wp2
    go_ret
    exact ⟨rfl, HB1.out⟩
  cases b
  · go_enter Try.func19, Try.ntmps19
    go_wp2_with fail
    refine (HA.out _).mono ?_
    rintro e w1 ⟨rfl, hb⟩
    have P := Lib.hid (heap_call hb (heap_old (heap_new (W := w) rfl)))
    have Q : Hid (w1.heap[w.heap.size + 1]? = some (.cells #[.int .i64 k, .int .i64 h] 25)) := heap_call hb (heap_new (by simp))
    have HB1 := Lib.hid (((below_new _).alloc (by simp) _).trans (hb.mono (by simp; omega)))
    have p0 : w1.cell? ⟨w.heap.size, 0, none⟩ = some (.int .i64 n) := cell_of P.out 0
    have p1 : w1.cell? ⟨w.heap.size, 1, none⟩ = some (.int .i64 l) := cell_of P.out 1
    have p2 : w1.cell? ⟨w.heap.size, 2, none⟩ = some (.int .i64 s) := cell_of P.out 2
    have q0 : w1.cell? ⟨w.heap.size + 1, 0, none⟩ = some (.int .i64 k) := cell_of Q.out 0
    clear hb
    go_wp2_with fail
    refine (HB.out _).mono ?_
    rintro e w2 ⟨rfl, hb⟩
    have Q2 := Lib.hid (heap_call hb Q.out)
    have HB2 := Lib.hid (HB1.out.trans (hb.mono HB1.out.size))
    have q1 : w2.cell? ⟨w.heap.size + 1, 1, none⟩ = some (.int .i64 h) := cell_of Q2.out 1
    clear hb p0 p1 p2 q0
    go_wp2
    go_ret
    exact ⟨rfl, HB2.out⟩
  cases c
  all_goals
    go_enter Try.func19, Try.ntmps19
    go_wp2_with fail
    refine (HA.out _).mono ?_
    rintro e w1 ⟨rfl, hb⟩
    have P := Lib.hid (heap_call hb (heap_old (heap_new (W := w) rfl)))
    have Q : Hid (w1.heap[w.heap.size + 1]? = some (.cells #[.int .i64 k, .int .i64 h] 25)) := heap_call hb (heap_new (by simp))
    have HB1 := Lib.hid (((below_new _).alloc (by simp) _).trans (hb.mono (by simp; omega)))
    have p0 : w1.cell? ⟨w.heap.size, 0, none⟩ = some (.int .i64 n) := cell_of P.out 0
    have p1 : w1.cell? ⟨w.heap.size, 1, none⟩ = some (.int .i64 l) := cell_of P.out 1
    have p2 : w1.cell? ⟨w.heap.size, 2, none⟩ = some (.int .i64 s) := cell_of P.out 2
    have q0 : w1.cell? ⟨w.heap.size + 1, 0, none⟩ = some (.int .i64 k) := cell_of Q.out 0
    clear hb
    go_wp2_with fail
    refine (HB.out _).mono ?_
    rintro e w2 ⟨rfl, hb⟩
    have Q2 := Lib.hid (heap_call hb Q.out)
    have HB2 := Lib.hid (HB1.out.trans (hb.mono HB1.out.size))
    have q1 : w2.cell? ⟨w.heap.size + 1, 1, none⟩ = some (.int .i64 h) := cell_of Q2.out 1
    clear hb p0 p1 p2 q0
    go_wp2_with fail
    refine (HC.out _).mono ?_
    rintro e w3 ⟨rfl, rfl⟩
    go_wp2
    go_ret
    exact ⟨rfl, HB2.out⟩
theorem refOn_any (n l s me : Int) (x : Sk) (w : World) : Calls Try.prog 10 #[shapeV n l s, .int .i64 me, x.val] w (OnPost (onR n l s me x) w) := by
  have HA := Lib.hid (refRight_any n l s x.own)
  have HB := Lib.hid (refNode_any n l s me)
  have HC := Lib.hid (refNode_any n l s x.origin)
  have HD := Lib.hid (fun w => refHop_any x.hop w)
  generalize hr : onR n l s me x = r
  have HR0 := Lib.hid hr
  clear hr
  unfold onR onStays thereOk at HR0
  have HS : Hid (ownOk n l s x.own = true → shapeOk n l s = true) := fun h => by simp [ownOk] at h; exact h.1.1
  obtain ⟨has, ⟨k, h⟩, o, c⟩ := x
  simp only [Ow.val, Sk.val, shapeV] at *
  generalize ownOk n l s ⟨k, h⟩ = a at *
  generalize nodeOk n me = b at *
  generalize nodeOk n o = b2 at *
  generalize hopOk c = d at *
  cases a
  · have HR : Hid (r = (⟨0, 0⟩, false, 2)) := Lib.hid (by have h0 := HR0.out; have h1 := HS.out; simp_all)
    clear HR0 HS
    clear HB HC HD
    go_enter Try.func10, Try.ntmps10
    go_wp2_with fail
    refine (HA.out _).mono ?_
    rintro e w1 ⟨rfl, hb⟩
    have P := Lib.hid (heap_call hb (heap_old (heap_old (heap_new (W := w) rfl))))
    have Q : Hid (w1.heap[w.heap.size + 1]? = some (.cells #[.bool has, .int .i64 k, .int .i64 h, .int .i64 o, .int .i64 c] 27)) := heap_call hb (heap_old (heap_new (by simp)))
    have BX : Hid (w1.heap[w.heap.size + 1 + 1]? = some (.cells #[.int .i64 0, .int .i64 0] 25)) := heap_call hb (heap_new (by simp))
    have HBz := Lib.hid ((((below_new _).alloc (by simp) _).alloc (by simp; omega) _).trans (hb.mono (by simp; omega)))
    clear hb
    have c0 : w1.cell? ⟨w.heap.size + 1 + 1, 0, none⟩ = some (.int .i64 0) := cell_of BX.out 0
    have c1 : w1.cell? ⟨w.heap.size + 1 + 1, 1, none⟩ = some (.int .i64 0) := cell_of BX.out 1
    have f0 := free_of BX.out 0
    have f1 := free_of BX.out 1
    go_wp2
    refine bodyPost_ret (v := .tuple #[.agg #[.int .i64 0, .int .i64 0], .bool false, .int .i64 2]) (by simp [results, Try.results10, go_sem, c0, c1]) rfl ?_
    rw [HR.out]
    exact ⟨rfl, (HBz.out.setCell (by simp; omega) _).setCell (by simp; omega) _⟩
  have HS2 := HS.out rfl
  rw [HS2] at HR0
  clear HS HS2
  cases b
  · have HR : Hid (r = (⟨0, 0⟩, false, 2)) := Lib.hid (by have h0 := HR0.out; simp_all)
    clear HR0
    clear HC HD
    go_enter Try.func10, Try.ntmps10
    go_wp2_with fail
    refine (HA.out _).mono ?_
    rintro e w1 ⟨rfl, hb⟩
    have P := Lib.hid (heap_call hb (heap_old (heap_old (heap_new (W := w) rfl))))
    have Q : Hid (w1.heap[w.heap.size + 1]? = some (.cells #[.bool has, .int .i64 k, .int .i64 h, .int .i64 o, .int .i64 c] 27)) := heap_call hb (heap_old (heap_new (by simp)))
    have BX : Hid (w1.heap[w.heap.size + 1 + 1]? = some (.cells #[.int .i64 0, .int .i64 0] 25)) := heap_call hb (heap_new (by simp))
    have HBz := Lib.hid ((((below_new _).alloc (by simp) _).alloc (by simp; omega) _).trans (hb.mono (by simp; omega)))
    clear hb
    have p0 : w1.cell? ⟨w.heap.size, 0, none⟩ = some (.int .i64 n) := cell_of P.out 0
    have p1 : w1.cell? ⟨w.heap.size, 1, none⟩ = some (.int .i64 l) := cell_of P.out 1
    have p2 : w1.cell? ⟨w.heap.size, 2, none⟩ = some (.int .i64 s) := cell_of P.out 2
    go_wp2_with fail
    refine (HB.out _).mono ?_
    rintro e w2 ⟨rfl, hb⟩
    have P := Lib.hid (heap_call hb P.out)
    have Q := Lib.hid (heap_call hb Q.out)
    have BX := Lib.hid (heap_call hb BX.out)
    have HBz := Lib.hid (HBz.out.trans (hb.mono HBz.out.size))
    clear hb p0 p1 p2
    have c0 : w2.cell? ⟨w.heap.size + 1 + 1, 0, none⟩ = some (.int .i64 0) := cell_of BX.out 0
    have c1 : w2.cell? ⟨w.heap.size + 1 + 1, 1, none⟩ = some (.int .i64 0) := cell_of BX.out 1
    have f0 := free_of BX.out 0
    have f1 := free_of BX.out 1
    go_wp2
    refine bodyPost_ret (v := .tuple #[.agg #[.int .i64 0, .int .i64 0], .bool false, .int .i64 2]) (by simp [results, Try.results10, go_sem, c0, c1]) rfl ?_
    rw [HR.out]
    exact ⟨rfl, (HBz.out.setCell (by simp; omega) _).setCell (by simp; omega) _⟩
  cases b2
  · have HR : Hid (r = (⟨0, 0⟩, false, 2)) := Lib.hid (by have h0 := HR0.out; simp_all)
    clear HR0
    clear HD
    go_enter Try.func10, Try.ntmps10
    go_wp2_with fail
    refine (HA.out _).mono ?_
    rintro e w1 ⟨rfl, hb⟩
    have P := Lib.hid (heap_call hb (heap_old (heap_old (heap_new (W := w) rfl))))
    have Q : Hid (w1.heap[w.heap.size + 1]? = some (.cells #[.bool has, .int .i64 k, .int .i64 h, .int .i64 o, .int .i64 c] 27)) := heap_call hb (heap_old (heap_new (by simp)))
    have BX : Hid (w1.heap[w.heap.size + 1 + 1]? = some (.cells #[.int .i64 0, .int .i64 0] 25)) := heap_call hb (heap_new (by simp))
    have HBz := Lib.hid ((((below_new _).alloc (by simp) _).alloc (by simp; omega) _).trans (hb.mono (by simp; omega)))
    clear hb
    have p0 : w1.cell? ⟨w.heap.size, 0, none⟩ = some (.int .i64 n) := cell_of P.out 0
    have p1 : w1.cell? ⟨w.heap.size, 1, none⟩ = some (.int .i64 l) := cell_of P.out 1
    have p2 : w1.cell? ⟨w.heap.size, 2, none⟩ = some (.int .i64 s) := cell_of P.out 2
    go_wp2_with fail
    refine (HB.out _).mono ?_
    rintro e w2 ⟨rfl, hb⟩
    have P := Lib.hid (heap_call hb P.out)
    have Q := Lib.hid (heap_call hb Q.out)
    have BX := Lib.hid (heap_call hb BX.out)
    have HBz := Lib.hid (HBz.out.trans (hb.mono HBz.out.size))
    clear hb p0 p1 p2
    have p0 : w2.cell? ⟨w.heap.size, 0, none⟩ = some (.int .i64 n) := cell_of P.out 0
    have p1 : w2.cell? ⟨w.heap.size, 1, none⟩ = some (.int .i64 l) := cell_of P.out 1
    have p2 : w2.cell? ⟨w.heap.size, 2, none⟩ = some (.int .i64 s) := cell_of P.out 2
    have q3 : w2.cell? ⟨w.heap.size + 1, 3, none⟩ = some (.int .i64 o) := cell_of Q.out 3
    go_wp2_with fail
    refine (HC.out _).mono ?_
    rintro e w3 ⟨rfl, hb⟩
    have P := Lib.hid (heap_call hb P.out)
    have Q := Lib.hid (heap_call hb Q.out)
    have BX := Lib.hid (heap_call hb BX.out)
    have HBz := Lib.hid (HBz.out.trans (hb.mono HBz.out.size))
    clear hb p0 p1 p2
    clear q3
    have c0 : w3.cell? ⟨w.heap.size + 1 + 1, 0, none⟩ = some (.int .i64 0) := cell_of BX.out 0
    have c1 : w3.cell? ⟨w.heap.size + 1 + 1, 1, none⟩ = some (.int .i64 0) := cell_of BX.out 1
    have f0 := free_of BX.out 0
    have f1 := free_of BX.out 1
    go_wp2
    refine bodyPost_ret (v := .tuple #[.agg #[.int .i64 0, .int .i64 0], .bool false, .int .i64 2]) (by simp [results, Try.results10, go_sem, c0, c1]) rfl ?_
    rw [HR.out]
    exact ⟨rfl, (HBz.out.setCell (by simp; omega) _).setCell (by simp; omega) _⟩
  cases d
  · have HR : Hid (r = (⟨0, 0⟩, false, 2)) := Lib.hid (by have h0 := HR0.out; simp_all)
    clear HR0
    go_enter Try.func10, Try.ntmps10
    go_wp2_with fail
    refine (HA.out _).mono ?_
    rintro e w1 ⟨rfl, hb⟩
    have P := Lib.hid (heap_call hb (heap_old (heap_old (heap_new (W := w) rfl))))
    have Q : Hid (w1.heap[w.heap.size + 1]? = some (.cells #[.bool has, .int .i64 k, .int .i64 h, .int .i64 o, .int .i64 c] 27)) := heap_call hb (heap_old (heap_new (by simp)))
    have BX : Hid (w1.heap[w.heap.size + 1 + 1]? = some (.cells #[.int .i64 0, .int .i64 0] 25)) := heap_call hb (heap_new (by simp))
    have HBz := Lib.hid ((((below_new _).alloc (by simp) _).alloc (by simp; omega) _).trans (hb.mono (by simp; omega)))
    clear hb
    have p0 : w1.cell? ⟨w.heap.size, 0, none⟩ = some (.int .i64 n) := cell_of P.out 0
    have p1 : w1.cell? ⟨w.heap.size, 1, none⟩ = some (.int .i64 l) := cell_of P.out 1
    have p2 : w1.cell? ⟨w.heap.size, 2, none⟩ = some (.int .i64 s) := cell_of P.out 2
    go_wp2_with fail
    refine (HB.out _).mono ?_
    rintro e w2 ⟨rfl, hb⟩
    have P := Lib.hid (heap_call hb P.out)
    have Q := Lib.hid (heap_call hb Q.out)
    have BX := Lib.hid (heap_call hb BX.out)
    have HBz := Lib.hid (HBz.out.trans (hb.mono HBz.out.size))
    clear hb p0 p1 p2
    have p0 : w2.cell? ⟨w.heap.size, 0, none⟩ = some (.int .i64 n) := cell_of P.out 0
    have p1 : w2.cell? ⟨w.heap.size, 1, none⟩ = some (.int .i64 l) := cell_of P.out 1
    have p2 : w2.cell? ⟨w.heap.size, 2, none⟩ = some (.int .i64 s) := cell_of P.out 2
    have q3 : w2.cell? ⟨w.heap.size + 1, 3, none⟩ = some (.int .i64 o) := cell_of Q.out 3
    go_wp2_with fail
    refine (HC.out _).mono ?_
    rintro e w3 ⟨rfl, hb⟩
    have P := Lib.hid (heap_call hb P.out)
    have Q := Lib.hid (heap_call hb Q.out)
    have BX := Lib.hid (heap_call hb BX.out)
    have HBz := Lib.hid (HBz.out.trans (hb.mono HBz.out.size))
    clear hb p0 p1 p2
    clear q3
    have q4 : w3.cell? ⟨w.heap.size + 1, 4, none⟩ = some (.int .i64 c) := cell_of Q.out 4
    go_wp2_with fail
    refine (HD.out _).mono ?_
    rintro e w4 ⟨rfl, rfl⟩
    have c0 : w4.cell? ⟨w.heap.size + 1 + 1, 0, none⟩ = some (.int .i64 0) := cell_of BX.out 0
    have c1 : w4.cell? ⟨w.heap.size + 1 + 1, 1, none⟩ = some (.int .i64 0) := cell_of BX.out 1
    have f0 := free_of BX.out 0
    have f1 := free_of BX.out 1
    go_wp2
    refine bodyPost_ret (v := .tuple #[.agg #[.int .i64 0, .int .i64 0], .bool false, .int .i64 2]) (by simp [results, Try.results10, go_sem, c0, c1]) rfl ?_
    rw [HR.out]
    exact ⟨rfl, (HBz.out.setCell (by simp; omega) _).setCell (by simp; omega) _⟩
  cases has
  rotate_left
  · have HR : Hid (r = (⟨0, 0⟩, false, 0)) := Lib.hid (by have h0 := HR0.out; simp_all)
    clear HR0
    go_enter Try.func10, Try.ntmps10
    go_wp2_with fail
    refine (HA.out _).mono ?_
    rintro e w1 ⟨rfl, hb⟩
    have P := Lib.hid (heap_call hb (heap_old (heap_old (heap_new (W := w) rfl))))
    have Q : Hid (w1.heap[w.heap.size + 1]? = some (.cells #[.bool true, .int .i64 k, .int .i64 h, .int .i64 o, .int .i64 c] 27)) := heap_call hb (heap_old (heap_new (by simp)))
    have BX : Hid (w1.heap[w.heap.size + 1 + 1]? = some (.cells #[.int .i64 0, .int .i64 0] 25)) := heap_call hb (heap_new (by simp))
    have HBz := Lib.hid ((((below_new _).alloc (by simp) _).alloc (by simp; omega) _).trans (hb.mono (by simp; omega)))
    clear hb
    have p0 : w1.cell? ⟨w.heap.size, 0, none⟩ = some (.int .i64 n) := cell_of P.out 0
    have p1 : w1.cell? ⟨w.heap.size, 1, none⟩ = some (.int .i64 l) := cell_of P.out 1
    have p2 : w1.cell? ⟨w.heap.size, 2, none⟩ = some (.int .i64 s) := cell_of P.out 2
    go_wp2_with fail
    refine (HB.out _).mono ?_
    rintro e w2 ⟨rfl, hb⟩
    have P := Lib.hid (heap_call hb P.out)
    have Q := Lib.hid (heap_call hb Q.out)
    have BX := Lib.hid (heap_call hb BX.out)
    have HBz := Lib.hid (HBz.out.trans (hb.mono HBz.out.size))
    clear hb p0 p1 p2
    have p0 : w2.cell? ⟨w.heap.size, 0, none⟩ = some (.int .i64 n) := cell_of P.out 0
    have p1 : w2.cell? ⟨w.heap.size, 1, none⟩ = some (.int .i64 l) := cell_of P.out 1
    have p2 : w2.cell? ⟨w.heap.size, 2, none⟩ = some (.int .i64 s) := cell_of P.out 2
    have q3 : w2.cell? ⟨w.heap.size + 1, 3, none⟩ = some (.int .i64 o) := cell_of Q.out 3
    go_wp2_with fail
    refine (HC.out _).mono ?_
    rintro e w3 ⟨rfl, hb⟩
    have P := Lib.hid (heap_call hb P.out)
    have Q := Lib.hid (heap_call hb Q.out)
    have BX := Lib.hid (heap_call hb BX.out)
    have HBz := Lib.hid (HBz.out.trans (hb.mono HBz.out.size))
    clear hb p0 p1 p2
    clear q3
    have q4 : w3.cell? ⟨w.heap.size + 1, 4, none⟩ = some (.int .i64 c) := cell_of Q.out 4
    go_wp2_with fail
    refine (HD.out _).mono ?_
    rintro e w4 ⟨rfl, rfl⟩
    have q0 : w4.cell? ⟨w.heap.size + 1, 0, none⟩ = some (.bool true) := cell_of Q.out 0
    have q1 : w4.cell? ⟨w.heap.size + 1, 1, none⟩ = some (.int .i64 k) := cell_of Q.out 1
    have q2 : w4.cell? ⟨w.heap.size + 1, 2, none⟩ = some (.int .i64 h) := cell_of Q.out 2
    have q3 : w4.cell? ⟨w.heap.size + 1, 3, none⟩ = some (.int .i64 o) := cell_of Q.out 3
    have c0 : w4.cell? ⟨w.heap.size + 1 + 1, 0, none⟩ = some (.int .i64 0) := cell_of BX.out 0
    have c1 : w4.cell? ⟨w.heap.size + 1 + 1, 1, none⟩ = some (.int .i64 0) := cell_of BX.out 1
    have f0 := free_of BX.out 0
    have f1 := free_of BX.out 1
    go_wp2
    refine bodyPost_ret (v := .tuple #[.agg #[.int .i64 0, .int .i64 0], .bool false, .int .i64 0]) (by simp [results, Try.results10, go_sem, c0, c1]) rfl ?_
    rw [HR.out]
    exact ⟨rfl, (HBz.out.setCell (by simp; omega) _).setCell (by simp; omega) _⟩
  by_cases g1 : k = me
  · have HR : Hid (r = (⟨0, 0⟩, false, 0)) := Lib.hid (by have h0 := HR0.out; simp_all)
    clear HR0
    subst g1
    go_enter Try.func10, Try.ntmps10
    go_wp2_with fail
    refine (HA.out _).mono ?_
    rintro e w1 ⟨rfl, hb⟩
    have P := Lib.hid (heap_call hb (heap_old (heap_old (heap_new (W := w) rfl))))
    have Q : Hid (w1.heap[w.heap.size + 1]? = some (.cells #[.bool false, .int .i64 k, .int .i64 h, .int .i64 o, .int .i64 c] 27)) := heap_call hb (heap_old (heap_new (by simp)))
    have BX : Hid (w1.heap[w.heap.size + 1 + 1]? = some (.cells #[.int .i64 0, .int .i64 0] 25)) := heap_call hb (heap_new (by simp))
    have HBz := Lib.hid ((((below_new _).alloc (by simp) _).alloc (by simp; omega) _).trans (hb.mono (by simp; omega)))
    clear hb
    have p0 : w1.cell? ⟨w.heap.size, 0, none⟩ = some (.int .i64 n) := cell_of P.out 0
    have p1 : w1.cell? ⟨w.heap.size, 1, none⟩ = some (.int .i64 l) := cell_of P.out 1
    have p2 : w1.cell? ⟨w.heap.size, 2, none⟩ = some (.int .i64 s) := cell_of P.out 2
    go_wp2_with fail
    refine (HB.out _).mono ?_
    rintro e w2 ⟨rfl, hb⟩
    have P := Lib.hid (heap_call hb P.out)
    have Q := Lib.hid (heap_call hb Q.out)
    have BX := Lib.hid (heap_call hb BX.out)
    have HBz := Lib.hid (HBz.out.trans (hb.mono HBz.out.size))
    clear hb p0 p1 p2
    have p0 : w2.cell? ⟨w.heap.size, 0, none⟩ = some (.int .i64 n) := cell_of P.out 0
    have p1 : w2.cell? ⟨w.heap.size, 1, none⟩ = some (.int .i64 l) := cell_of P.out 1
    have p2 : w2.cell? ⟨w.heap.size, 2, none⟩ = some (.int .i64 s) := cell_of P.out 2
    have q3 : w2.cell? ⟨w.heap.size + 1, 3, none⟩ = some (.int .i64 o) := cell_of Q.out 3
    go_wp2_with fail
    refine (HC.out _).mono ?_
    rintro e w3 ⟨rfl, hb⟩
    have P := Lib.hid (heap_call hb P.out)
    have Q := Lib.hid (heap_call hb Q.out)
    have BX := Lib.hid (heap_call hb BX.out)
    have HBz := Lib.hid (HBz.out.trans (hb.mono HBz.out.size))
    clear hb p0 p1 p2
    clear q3
    have q4 : w3.cell? ⟨w.heap.size + 1, 4, none⟩ = some (.int .i64 c) := cell_of Q.out 4
    go_wp2_with fail
    refine (HD.out _).mono ?_
    rintro e w4 ⟨rfl, rfl⟩
    have q0 : w4.cell? ⟨w.heap.size + 1, 0, none⟩ = some (.bool false) := cell_of Q.out 0
    have q1 : w4.cell? ⟨w.heap.size + 1, 1, none⟩ = some (.int .i64 k) := cell_of Q.out 1
    have q2 : w4.cell? ⟨w.heap.size + 1, 2, none⟩ = some (.int .i64 h) := cell_of Q.out 2
    have q3 : w4.cell? ⟨w.heap.size + 1, 3, none⟩ = some (.int .i64 o) := cell_of Q.out 3
    have c0 : w4.cell? ⟨w.heap.size + 1 + 1, 0, none⟩ = some (.int .i64 0) := cell_of BX.out 0
    have c1 : w4.cell? ⟨w.heap.size + 1 + 1, 1, none⟩ = some (.int .i64 0) := cell_of BX.out 1
    have f0 := free_of BX.out 0
    have f1 := free_of BX.out 1
    go_wp2
    refine bodyPost_ret (v := .tuple #[.agg #[.int .i64 0, .int .i64 0], .bool false, .int .i64 0]) (by simp [results, Try.results10, go_sem, c0, c1]) rfl ?_
    rw [HR.out]
    exact ⟨rfl, (HBz.out.setCell (by simp; omega) _).setCell (by simp; omega) _⟩
  by_cases g2 : k = o
  · have HR : Hid (r = (⟨0, 0⟩, false, 0)) := Lib.hid (by have h0 := HR0.out; simp_all)
    clear HR0
    subst g2
    go_enter Try.func10, Try.ntmps10
    go_wp2_with fail
    refine (HA.out _).mono ?_
    rintro e w1 ⟨rfl, hb⟩
    have P := Lib.hid (heap_call hb (heap_old (heap_old (heap_new (W := w) rfl))))
    have Q : Hid (w1.heap[w.heap.size + 1]? = some (.cells #[.bool false, .int .i64 k, .int .i64 h, .int .i64 k, .int .i64 c] 27)) := heap_call hb (heap_old (heap_new (by simp)))
    have BX : Hid (w1.heap[w.heap.size + 1 + 1]? = some (.cells #[.int .i64 0, .int .i64 0] 25)) := heap_call hb (heap_new (by simp))
    have HBz := Lib.hid ((((below_new _).alloc (by simp) _).alloc (by simp; omega) _).trans (hb.mono (by simp; omega)))
    clear hb
    have p0 : w1.cell? ⟨w.heap.size, 0, none⟩ = some (.int .i64 n) := cell_of P.out 0
    have p1 : w1.cell? ⟨w.heap.size, 1, none⟩ = some (.int .i64 l) := cell_of P.out 1
    have p2 : w1.cell? ⟨w.heap.size, 2, none⟩ = some (.int .i64 s) := cell_of P.out 2
    go_wp2_with fail
    refine (HB.out _).mono ?_
    rintro e w2 ⟨rfl, hb⟩
    have P := Lib.hid (heap_call hb P.out)
    have Q := Lib.hid (heap_call hb Q.out)
    have BX := Lib.hid (heap_call hb BX.out)
    have HBz := Lib.hid (HBz.out.trans (hb.mono HBz.out.size))
    clear hb p0 p1 p2
    have p0 : w2.cell? ⟨w.heap.size, 0, none⟩ = some (.int .i64 n) := cell_of P.out 0
    have p1 : w2.cell? ⟨w.heap.size, 1, none⟩ = some (.int .i64 l) := cell_of P.out 1
    have p2 : w2.cell? ⟨w.heap.size, 2, none⟩ = some (.int .i64 s) := cell_of P.out 2
    have q3 : w2.cell? ⟨w.heap.size + 1, 3, none⟩ = some (.int .i64 k) := cell_of Q.out 3
    go_wp2_with fail
    refine (HC.out _).mono ?_
    rintro e w3 ⟨rfl, hb⟩
    have P := Lib.hid (heap_call hb P.out)
    have Q := Lib.hid (heap_call hb Q.out)
    have BX := Lib.hid (heap_call hb BX.out)
    have HBz := Lib.hid (HBz.out.trans (hb.mono HBz.out.size))
    clear hb p0 p1 p2
    clear q3
    have q4 : w3.cell? ⟨w.heap.size + 1, 4, none⟩ = some (.int .i64 c) := cell_of Q.out 4
    go_wp2_with fail
    refine (HD.out _).mono ?_
    rintro e w4 ⟨rfl, rfl⟩
    have q0 : w4.cell? ⟨w.heap.size + 1, 0, none⟩ = some (.bool false) := cell_of Q.out 0
    have q1 : w4.cell? ⟨w.heap.size + 1, 1, none⟩ = some (.int .i64 k) := cell_of Q.out 1
    have q2 : w4.cell? ⟨w.heap.size + 1, 2, none⟩ = some (.int .i64 h) := cell_of Q.out 2
    have q3 : w4.cell? ⟨w.heap.size + 1, 3, none⟩ = some (.int .i64 k) := cell_of Q.out 3
    have c0 : w4.cell? ⟨w.heap.size + 1 + 1, 0, none⟩ = some (.int .i64 0) := cell_of BX.out 0
    have c1 : w4.cell? ⟨w.heap.size + 1 + 1, 1, none⟩ = some (.int .i64 0) := cell_of BX.out 1
    have f0 := free_of BX.out 0
    have f1 := free_of BX.out 1
    go_wp2
    refine bodyPost_ret (v := .tuple #[.agg #[.int .i64 0, .int .i64 0], .bool false, .int .i64 0]) (by simp [results, Try.results10, go_sem, c0, c1]) rfl ?_
    rw [HR.out]
    exact ⟨rfl, (HBz.out.setCell (by simp; omega) _).setCell (by simp; omega) _⟩
  by_cases g3 : h ≤ c
  · have HR : Hid (r = (⟨0, 0⟩, false, 0)) := Lib.hid (by have h0 := HR0.out; simp_all)
    clear HR0
    go_enter Try.func10, Try.ntmps10
    go_wp2_with fail
    refine (HA.out _).mono ?_
    rintro e w1 ⟨rfl, hb⟩
    have P := Lib.hid (heap_call hb (heap_old (heap_old (heap_new (W := w) rfl))))
    have Q : Hid (w1.heap[w.heap.size + 1]? = some (.cells #[.bool false, .int .i64 k, .int .i64 h, .int .i64 o, .int .i64 c] 27)) := heap_call hb (heap_old (heap_new (by simp)))
    have BX : Hid (w1.heap[w.heap.size + 1 + 1]? = some (.cells #[.int .i64 0, .int .i64 0] 25)) := heap_call hb (heap_new (by simp))
    have HBz := Lib.hid ((((below_new _).alloc (by simp) _).alloc (by simp; omega) _).trans (hb.mono (by simp; omega)))
    clear hb
    have p0 : w1.cell? ⟨w.heap.size, 0, none⟩ = some (.int .i64 n) := cell_of P.out 0
    have p1 : w1.cell? ⟨w.heap.size, 1, none⟩ = some (.int .i64 l) := cell_of P.out 1
    have p2 : w1.cell? ⟨w.heap.size, 2, none⟩ = some (.int .i64 s) := cell_of P.out 2
    go_wp2_with fail
    refine (HB.out _).mono ?_
    rintro e w2 ⟨rfl, hb⟩
    have P := Lib.hid (heap_call hb P.out)
    have Q := Lib.hid (heap_call hb Q.out)
    have BX := Lib.hid (heap_call hb BX.out)
    have HBz := Lib.hid (HBz.out.trans (hb.mono HBz.out.size))
    clear hb p0 p1 p2
    have p0 : w2.cell? ⟨w.heap.size, 0, none⟩ = some (.int .i64 n) := cell_of P.out 0
    have p1 : w2.cell? ⟨w.heap.size, 1, none⟩ = some (.int .i64 l) := cell_of P.out 1
    have p2 : w2.cell? ⟨w.heap.size, 2, none⟩ = some (.int .i64 s) := cell_of P.out 2
    have q3 : w2.cell? ⟨w.heap.size + 1, 3, none⟩ = some (.int .i64 o) := cell_of Q.out 3
    go_wp2_with fail
    refine (HC.out _).mono ?_
    rintro e w3 ⟨rfl, hb⟩
    have P := Lib.hid (heap_call hb P.out)
    have Q := Lib.hid (heap_call hb Q.out)
    have BX := Lib.hid (heap_call hb BX.out)
    have HBz := Lib.hid (HBz.out.trans (hb.mono HBz.out.size))
    clear hb p0 p1 p2
    clear q3
    have q4 : w3.cell? ⟨w.heap.size + 1, 4, none⟩ = some (.int .i64 c) := cell_of Q.out 4
    go_wp2_with fail
    refine (HD.out _).mono ?_
    rintro e w4 ⟨rfl, rfl⟩
    have q0 : w4.cell? ⟨w.heap.size + 1, 0, none⟩ = some (.bool false) := cell_of Q.out 0
    have q1 : w4.cell? ⟨w.heap.size + 1, 1, none⟩ = some (.int .i64 k) := cell_of Q.out 1
    have q2 : w4.cell? ⟨w.heap.size + 1, 2, none⟩ = some (.int .i64 h) := cell_of Q.out 2
    have q3 : w4.cell? ⟨w.heap.size + 1, 3, none⟩ = some (.int .i64 o) := cell_of Q.out 3
    have c0 : w4.cell? ⟨w.heap.size + 1 + 1, 0, none⟩ = some (.int .i64 0) := cell_of BX.out 0
    have c1 : w4.cell? ⟨w.heap.size + 1 + 1, 1, none⟩ = some (.int .i64 0) := cell_of BX.out 1
    have f0 := free_of BX.out 0
    have f1 := free_of BX.out 1
    go_wp2
    refine bodyPost_ret (v := .tuple #[.agg #[.int .i64 0, .int .i64 0], .bool false, .int .i64 0]) (by simp [results, Try.results10, go_sem, c0, c1]) rfl ?_
    rw [HR.out]
    exact ⟨rfl, (HBz.out.setCell (by simp; omega) _).setCell (by simp; omega) _⟩
  · have HR : Hid (r = (⟨k, h⟩, true, 0)) := Lib.hid (by have h0 := HR0.out.symm; simpa [g1, g2, g3] using h0)
    clear HR0
    have e1 : (k == me) = false := by simpa using g1
    have e2 : (k == o) = false := by simpa using g2
    have e3 : decide (h ≤ c) = false := by simpa using g3
    go_enter Try.func10, Try.ntmps10
    go_wp2_with fail
    refine (HA.out _).mono ?_
    rintro e w1 ⟨rfl, hb⟩
    have P := Lib.hid (heap_call hb (heap_old (heap_old (heap_new (W := w) rfl))))
    have Q : Hid (w1.heap[w.heap.size + 1]? = some (.cells #[.bool false, .int .i64 k, .int .i64 h, .int .i64 o, .int .i64 c] 27)) := heap_call hb (heap_old (heap_new (by simp)))
    have BX : Hid (w1.heap[w.heap.size + 1 + 1]? = some (.cells #[.int .i64 0, .int .i64 0] 25)) := heap_call hb (heap_new (by simp))
    have HBz := Lib.hid ((((below_new _).alloc (by simp) _).alloc (by simp; omega) _).trans (hb.mono (by simp; omega)))
    clear hb
    have p0 : w1.cell? ⟨w.heap.size, 0, none⟩ = some (.int .i64 n) := cell_of P.out 0
    have p1 : w1.cell? ⟨w.heap.size, 1, none⟩ = some (.int .i64 l) := cell_of P.out 1
    have p2 : w1.cell? ⟨w.heap.size, 2, none⟩ = some (.int .i64 s) := cell_of P.out 2
    go_wp2_with fail
    refine (HB.out _).mono ?_
    rintro e w2 ⟨rfl, hb⟩
    have P := Lib.hid (heap_call hb P.out)
    have Q := Lib.hid (heap_call hb Q.out)
    have BX := Lib.hid (heap_call hb BX.out)
    have HBz := Lib.hid (HBz.out.trans (hb.mono HBz.out.size))
    clear hb p0 p1 p2
    have p0 : w2.cell? ⟨w.heap.size, 0, none⟩ = some (.int .i64 n) := cell_of P.out 0
    have p1 : w2.cell? ⟨w.heap.size, 1, none⟩ = some (.int .i64 l) := cell_of P.out 1
    have p2 : w2.cell? ⟨w.heap.size, 2, none⟩ = some (.int .i64 s) := cell_of P.out 2
    have q3 : w2.cell? ⟨w.heap.size + 1, 3, none⟩ = some (.int .i64 o) := cell_of Q.out 3
    go_wp2_with fail
    refine (HC.out _).mono ?_
    rintro e w3 ⟨rfl, hb⟩
    have P := Lib.hid (heap_call hb P.out)
    have Q := Lib.hid (heap_call hb Q.out)
    have BX := Lib.hid (heap_call hb BX.out)
    have HBz := Lib.hid (HBz.out.trans (hb.mono HBz.out.size))
    clear hb p0 p1 p2
    clear q3
    have q4 : w3.cell? ⟨w.heap.size + 1, 4, none⟩ = some (.int .i64 c) := cell_of Q.out 4
    go_wp2_with fail
    refine (HD.out _).mono ?_
    rintro e w4 ⟨rfl, rfl⟩
    have q0 : w4.cell? ⟨w.heap.size + 1, 0, none⟩ = some (.bool false) := cell_of Q.out 0
    have q1 : w4.cell? ⟨w.heap.size + 1, 1, none⟩ = some (.int .i64 k) := cell_of Q.out 1
    have q2 : w4.cell? ⟨w.heap.size + 1, 2, none⟩ = some (.int .i64 h) := cell_of Q.out 2
    have q3 : w4.cell? ⟨w.heap.size + 1, 3, none⟩ = some (.int .i64 o) := cell_of Q.out 3
    have c0 : w4.cell? ⟨w.heap.size + 1 + 1, 0, none⟩ = some (.int .i64 0) := cell_of BX.out 0
    have c1 : w4.cell? ⟨w.heap.size + 1 + 1, 1, none⟩ = some (.int .i64 0) := cell_of BX.out 1
    have f0 := free_of BX.out 0
    have f1 := free_of BX.out 1
    go_wp2
    refine bodyPost_ret (v := .tuple #[.agg #[.int .i64 k, .int .i64 h], .bool true, .int .i64 0]) (by simp [results, Try.results10, go_sem, c0, c1]) rfl ?_
    rw [HR.out]
    exact ⟨rfl, (HBz.out.setCell (by simp; omega) _).setCell (by simp; omega) _⟩
end Go.Proofs.Ytoanpfbdhkgncaa
