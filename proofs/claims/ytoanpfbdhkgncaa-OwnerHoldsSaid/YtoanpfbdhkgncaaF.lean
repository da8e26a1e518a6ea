/-
  PROVED: The contract of owner.On. CONDITIONS: none.
-/
import Derived.Test.YtoanpfbdhkgncaaE
import Derived.RangeFuncBox
namespace Go.Proofs.Ytoanpfbdhkgncaa
open Go.RowKit
set_option maxRecDepth 100000
set_option maxHeartbeats 2000000
/-- A seek. -/
structure Sk where
  has : Bool
  own : Ow
  origin : Int
  hop : Int
def Sk.val (x : Sk) : Value := .agg #[.bool x.has, .int .i64 x.own.node, .int .i64 x.own.hop, .int .i64 x.origin, .int .i64 x.hop]
def thereOk (n l s a b : Int) : Bool := shapeOk n l s && (nodeOk n a && nodeOk n b)
def onStays (me : Int) (x : Sk) : Bool := x.has || x.own.node == me || x.own.node == x.origin || decide (x.own.hop ≤ x.hop)
/-- Whether a status goes on; an error's number. -/
def onR (n l s me : Int) (x : Sk) : Ow × Bool × Int :=
  if ownOk n l s x.own && thereOk n l s me x.origin && hopOk x.hop then
    if onStays me x then (⟨0, 0⟩, false, 0) else (x.own, true, 0)
  else (⟨0, 0⟩, false, 2)
theorem heap_new {W : World} {o : Obj} {g : Nat} (hg : W.heap.size = g) : (W.alloc o).heap[g]? = some o := by subst hg; exact World.alloc_heap_new W o
theorem heap_old {W : World} {o x : Obj} {b : Nat} (h : W.heap[b]? = some x) : (W.alloc o).heap[b]? = some x := (Below.heap_alloc _ _ _ (Array.getElem?_eq_some_iff.1 h).1).trans h
theorem heap_below {W W' : World} {B b : Nat} {x : Obj} (hb : Below B W W') (h : W.heap[b]? = some x) (hB : W.heap.size ≤ B) : W'.heap[b]? = some x := (hb.block b (Nat.lt_of_lt_of_le (Array.getElem?_eq_some_iff.1 h).1 hB)).trans h
theorem heap_call {W W' : World} {b : Nat} {x : Obj} (hb : Below W.heap.size W W') (h : W.heap[b]? = some x) : W'.heap[b]? = some x := heap_below hb h (Nat.le_refl _)
theorem heap_lt {W : World} {b : Nat} {x : Obj} (h : W.heap[b]? = some x) : b < W.heap.size := (Array.getElem?_eq_some_iff.1 h).1
theorem cell_of {W : World} {b : Nat} {xs : Array Value} {t : TypeId} (h : W.heap[b]? = some (.cells xs t)) (i : Nat) : W.cell? ⟨b, i, none⟩ = xs[i]? := by simp [World.cell?, h]
theorem free_of {W : World} {b : Nat} {xs : Array Value} {t : TypeId} (h : W.heap[b]? = some (.cells xs t)) (i : Nat) : W.frozen? ⟨b, i, none⟩ = false := by simp [World.frozen?, h]
def OnPost (r : Ow × Bool × Int) (w : World) (e : Ending) (w' : World) : Prop :=
  e = .returned (.tuple #[r.1.val, .bool r.2.1, .int .i64 r.2.2]) ∧ Below w.heap.size w w'
theorem ints_new2 (w : World) (k j : Int) (g : Nat) (hg : w.heap.size = g) : Ints (w.alloc (.cells #[.int .i64 k, .int .i64 j] 3)) (.slice (some ⟨g, 0, none⟩) 2 2) [k, j] := by
  subst hg
  exact ⟨_, _, rfl, by simp, fun _ => ⟨_, _, rfl, fun i hi => by
    have h : i = 0 ∨ i = 1 := by simp at hi; omega
    rcases h with rfl | rfl <;> simp⟩⟩
theorem there2_any (n l s a b : Int) (v : Value) (w : World) (h : Ints w v [a, b]) :
    Calls Try.prog 23 #[shapeV n l s, v] w fun e w' => e = .returned (.bool (thereOk n l s a b)) ∧ Below w.heap.size w w' := by
  refine (there_any n l s v [a, b] w h).mono ?_
  rintro e w' ⟨rfl, hb⟩
  exact ⟨by simp [thereOk], hb⟩
/-- At the label 'wrong'. -/
def OnBad (w : World) (r : Ow × Bool × Int) (f : Act) (w' : World) : Prop :=
  (∃ (u0 u1 u2 u3 u4 u5 u7 u8 u9 u10 u11 u12 u13 u14 u15 u16 u17 u18 u19 u20 u21 u22 u23 u24 u25 u26 u27 u28 u29 u30 u31 u32 u33 u34 u35 u36 : Value), f = { tmps := #[u0, u1, u2, u3, u4, u5, .pointer (some ⟨w.heap.size + 1 + 1, 0, none⟩), u7, u8, u9, u10, u11, u12, u13, u14, u15, u16, u17, u18, u19, u20, u21, u22, u23, u24, u25, u26, u27, u28, u29, u30, u31, u32, u33, u34, u35, u36], defers := [] }) ∧ Below w.heap.size w w' ∧ w'.heap[w.heap.size + 1 + 1]? = some (.cells #[.int .i64 0, .int .i64 0] 25) ∧ r = (⟨0, 0⟩, false, 2)
theorem on_any (n l s me : Int) (x : Sk) (w : World) : Calls Try.prog 9 #[shapeV n l s, .int .i64 me, x.val] w (OnPost (onR n l s me x) w) := by
  have HA := Lib.hid (right_own n l s x.own)
  have HB := Lib.hid (there2_any n l s me x.origin)
  have HC := Lib.hid (fun w => hop_any x.hop w)
  have HS := Lib.hid (fun w => stays_any x.has x.own.node x.own.hop x.origin x.hop me w)
  generalize hr : onR n l s me x = r
  have HR0 := Lib.hid hr
  clear hr
  unfold onR onStays at HR0
  obtain ⟨has, ⟨k, h⟩, o, c⟩ := x
  simp only [Ow.val, Sk.val, shapeV, undV] at *
  generalize ownOk n l s ⟨k, h⟩ = a at *
  generalize thereOk n l s me o = b at *
  generalize hopOk c = d at *
  generalize (has || k == me || k == o || decide (h ≤ c)) = st at *
  cases a
  · have HR : Hid (r = (⟨0, 0⟩, false, 2)) := Lib.hid (by simpa using HR0.out.symm)
    clear HR0 HB HC HS
    go_enter Try.func9, Try.ntmps9
    go_wp2
    refine wp_scope_jumps 0 (OnBad w r) (fun _ _ => 0) rfl ?_ ?_
    · go_wp2_with fail
      refine (HA.out _).mono ?_
      rintro e w1 ⟨rfl, hb⟩
      have P := Lib.hid (heap_call hb (heap_old (heap_old (heap_new (W := w) rfl))))
      have Q : Hid (w1.heap[w.heap.size + 1]? = some (.cells #[.bool has, .int .i64 k, .int .i64 h, .int .i64 o, .int .i64 c] 27)) := heap_call hb (heap_old (heap_new (by simp)))
      have BX : Hid (w1.heap[w.heap.size + 1 + 1]? = some (.cells #[.int .i64 0, .int .i64 0] 25)) := heap_call hb (heap_new (by simp))
      have HB1 := Lib.hid ((((below_new _).alloc (by simp) _).alloc (by simp; omega) _).trans (hb.mono (by simp; omega)))
      have p0 : w1.cell? ⟨w.heap.size, 0, none⟩ = some (.int .i64 n) := cell_of P.out 0
      have p1 : w1.cell? ⟨w.heap.size, 1, none⟩ = some (.int .i64 l) := cell_of P.out 1
      have p2 : w1.cell? ⟨w.heap.size, 2, none⟩ = some (.int .i64 s) := cell_of P.out 2
      have q3 : w1.cell? ⟨w.heap.size + 1, 3, none⟩ = some (.int .i64 o) := cell_of Q.out 3
      clear hb
      go_wp2_with fail
      go_step3
      go_light
      simp only [Exit.then, Exit.jump, true_and]
      exact ⟨⟨_, _, _, _, _, _, _, _, _, _, _, _, _, _, _, _, _, _, _, _, _, _, _, _, _, _, _, _, _, _, _, _, _, _, _, _, rfl⟩, HB1.out, BX.out, HR.out⟩
    · rintro f w' ⟨⟨u0, u1, u2, u3, u4, u5, u7, u8, u9, u10, u11, u12, u13, u14, u15, u16, u17, u18, u19, u20, u21, u22, u23, u24, u25, u26, u27, u28, u29, u30, u31, u32, u33, u34, u35, u36, rfl⟩, hb, bx, hr⟩
      have HBl := Lib.hid hb
      have HR' := Lib.hid hr
      have c0 : w'.cell? ⟨w.heap.size + 1 + 1, 0, none⟩ = some (.int .i64 0) := cell_of bx 0
      have c1 : w'.cell? ⟨w.heap.size + 1 + 1, 1, none⟩ = some (.int .i64 0) := cell_of bx 1
      have f0 := free_of bx 0
      have f1 := free_of bx 1
      clear hb hr bx
      go_wp2
      simp only [Exit.jump]
      refine bodyPost_ret (v := .tuple #[.agg #[.int .i64 0, .int .i64 0], .bool false, .int .i64 2]) (by simp [results, Try.results9, go_sem, c0, c1]) rfl ?_
      rw [HR'.out]
      exact ⟨rfl, (HBl.out.setCell (by simp; omega) _).setCell (by simp; omega) _⟩
  cases b
  · have HR : Hid (r = (⟨0, 0⟩, false, 2)) := Lib.hid (by simpa using HR0.out.symm)
    clear HR0 HC HS
    go_enter Try.func9, Try.ntmps9
    go_wp2
    refine wp_scope_jumps 0 (OnBad w r) (fun _ _ => 0) rfl ?_ ?_
    · go_wp2_with fail
      refine (HA.out _).mono ?_
      rintro e w1 ⟨rfl, hb⟩
      have P := Lib.hid (heap_call hb (heap_old (heap_old (heap_new (W := w) rfl))))
      have Q : Hid (w1.heap[w.heap.size + 1]? = some (.cells #[.bool has, .int .i64 k, .int .i64 h, .int .i64 o, .int .i64 c] 27)) := heap_call hb (heap_old (heap_new (by simp)))
      have BX : Hid (w1.heap[w.heap.size + 1 + 1]? = some (.cells #[.int .i64 0, .int .i64 0] 25)) := heap_call hb (heap_new (by simp))
      have HB1 := Lib.hid ((((below_new _).alloc (by simp) _).alloc (by simp; omega) _).trans (hb.mono (by simp; omega)))
      have p0 : w1.cell? ⟨w.heap.size, 0, none⟩ = some (.int .i64 n) := cell_of P.out 0
      have p1 : w1.cell? ⟨w.heap.size, 1, none⟩ = some (.int .i64 l) := cell_of P.out 1
      have p2 : w1.cell? ⟨w.heap.size, 2, none⟩ = some (.int .i64 s) := cell_of P.out 2
      have q3 : w1.cell? ⟨w.heap.size + 1, 3, none⟩ = some (.int .i64 o) := cell_of Q.out 3
      clear hb
      go_wp2_with fail
      refine (HB.out _ _ (ints_new2 _ _ _ _ rfl)).mono ?_
      rintro e w2 ⟨rfl, hb⟩
      have Q2 := Lib.hid (heap_call hb (heap_old Q.out))
      have BX2 := Lib.hid (heap_call hb (heap_old BX.out))
      have HB2 := Lib.hid ((HB1.out.alloc HB1.out.size _).trans (hb.mono (by have := HB1.out.size; simp; omega)))
      have r0 : w2.cell? ⟨w.heap.size + 1, 0, none⟩ = some (.bool has) := cell_of Q2.out 0
      have r1 : w2.cell? ⟨w.heap.size + 1, 1, none⟩ = some (.int .i64 k) := cell_of Q2.out 1
      have r2 : w2.cell? ⟨w.heap.size + 1, 2, none⟩ = some (.int .i64 h) := cell_of Q2.out 2
      have r3 : w2.cell? ⟨w.heap.size + 1, 3, none⟩ = some (.int .i64 o) := cell_of Q2.out 3
      have r4 : w2.cell? ⟨w.heap.size + 1, 4, none⟩ = some (.int .i64 c) := cell_of Q2.out 4
      clear hb p0 p1 p2 q3
      go_wp2_with fail
      go_step3
      go_light
      simp only [Exit.then, Exit.jump, true_and]
      exact ⟨⟨_, _, _, _, _, _, _, _, _, _, _, _, _, _, _, _, _, _, _, _, _, _, _, _, _, _, _, _, _, _, _, _, _, _, _, _, rfl⟩, HB2.out, BX2.out, HR.out⟩
    · rintro f w' ⟨⟨u0, u1, u2, u3, u4, u5, u7, u8, u9, u10, u11, u12, u13, u14, u15, u16, u17, u18, u19, u20, u21, u22, u23, u24, u25, u26, u27, u28, u29, u30, u31, u32, u33, u34, u35, u36, rfl⟩, hb, bx, hr⟩
      have HBl := Lib.hid hb
      have HR' := Lib.hid hr
      have c0 : w'.cell? ⟨w.heap.size + 1 + 1, 0, none⟩ = some (.int .i64 0) := cell_of bx 0
      have c1 : w'.cell? ⟨w.heap.size + 1 + 1, 1, none⟩ = some (.int .i64 0) := cell_of bx 1
      have f0 := free_of bx 0
      have f1 := free_of bx 1
      clear hb hr bx
      go_wp2
      simp only [Exit.jump]
      refine bodyPost_ret (v := .tuple #[.agg #[.int .i64 0, .int .i64 0], .bool false, .int .i64 2]) (by simp [results, Try.results9, go_sem, c0, c1]) rfl ?_
      rw [HR'.out]
      exact ⟨rfl, (HBl.out.setCell (by simp; omega) _).setCell (by simp; omega) _⟩
  cases d
  · have HR : Hid (r = (⟨0, 0⟩, false, 2)) := Lib.hid (by simpa using HR0.out.symm)
    clear HR0 HS
    go_enter Try.func9, Try.ntmps9
    go_wp2
    refine wp_scope_jumps 0 (OnBad w r) (fun _ _ => 0) rfl ?_ ?_
    · go_wp2_with fail
      refine (HA.out _).mono ?_
      rintro e w1 ⟨rfl, hb⟩
      have P := Lib.hid (heap_call hb (heap_old (heap_old (heap_new (W := w) rfl))))
      have Q : Hid (w1.heap[w.heap.size + 1]? = some (.cells #[.bool has, .int .i64 k, .int .i64 h, .int .i64 o, .int .i64 c] 27)) := heap_call hb (heap_old (heap_new (by simp)))
      have BX : Hid (w1.heap[w.heap.size + 1 + 1]? = some (.cells #[.int .i64 0, .int .i64 0] 25)) := heap_call hb (heap_new (by simp))
      have HB1 := Lib.hid ((((below_new _).alloc (by simp) _).alloc (by simp; omega) _).trans (hb.mono (by simp; omega)))
      have p0 : w1.cell? ⟨w.heap.size, 0, none⟩ = some (.int .i64 n) := cell_of P.out 0
      have p1 : w1.cell? ⟨w.heap.size, 1, none⟩ = some (.int .i64 l) := cell_of P.out 1
      have p2 : w1.cell? ⟨w.heap.size, 2, none⟩ = some (.int .i64 s) := cell_of P.out 2
      have q3 : w1.cell? ⟨w.heap.size + 1, 3, none⟩ = some (.int .i64 o) := cell_of Q.out 3
      clear hb
      go_wp2_with fail
      refine (HB.out _ _ (ints_new2 _ _ _ _ rfl)).mono ?_
      rintro e w2 ⟨rfl, hb⟩
      have Q2 := Lib.hid (heap_call hb (heap_old Q.out))
      have BX2 := Lib.hid (heap_call hb (heap_old BX.out))
      have HB2 := Lib.hid ((HB1.out.alloc HB1.out.size _).trans (hb.mono (by have := HB1.out.size; simp; omega)))
      have r0 : w2.cell? ⟨w.heap.size + 1, 0, none⟩ = some (.bool has) := cell_of Q2.out 0
      have r1 : w2.cell? ⟨w.heap.size + 1, 1, none⟩ = some (.int .i64 k) := cell_of Q2.out 1
      have r2 : w2.cell? ⟨w.heap.size + 1, 2, none⟩ = some (.int .i64 h) := cell_of Q2.out 2
      have r3 : w2.cell? ⟨w.heap.size + 1, 3, none⟩ = some (.int .i64 o) := cell_of Q2.out 3
      have r4 : w2.cell? ⟨w.heap.size + 1, 4, none⟩ = some (.int .i64 c) := cell_of Q2.out 4
      clear hb p0 p1 p2 q3
      go_wp2_with fail
      refine (HC.out _).mono ?_
      rintro e w3 ⟨rfl, rfl⟩
      go_wp2_with fail
      go_step3
      go_light
      simp only [Exit.then, Exit.jump, true_and]
      exact ⟨⟨_, _, _, _, _, _, _, _, _, _, _, _, _, _, _, _, _, _, _, _, _, _, _, _, _, _, _, _, _, _, _, _, _, _, _, _, rfl⟩, HB2.out, BX2.out, HR.out⟩
    · rintro f w' ⟨⟨u0, u1, u2, u3, u4, u5, u7, u8, u9, u10, u11, u12, u13, u14, u15, u16, u17, u18, u19, u20, u21, u22, u23, u24, u25, u26, u27, u28, u29, u30, u31, u32, u33, u34, u35, u36, rfl⟩, hb, bx, hr⟩
      have HBl := Lib.hid hb
      have HR' := Lib.hid hr
      have c0 : w'.cell? ⟨w.heap.size + 1 + 1, 0, none⟩ = some (.int .i64 0) := cell_of bx 0
      have c1 : w'.cell? ⟨w.heap.size + 1 + 1, 1, none⟩ = some (.int .i64 0) := cell_of bx 1
      have f0 := free_of bx 0
      have f1 := free_of bx 1
      clear hb hr bx
      go_wp2
      simp only [Exit.jump]
      refine bodyPost_ret (v := .tuple #[.agg #[.int .i64 0, .int .i64 0], .bool false, .int .i64 2]) (by simp [results, Try.results9, go_sem, c0, c1]) rfl ?_
      rw [HR'.out]
      exact ⟨rfl, (HBl.out.setCell (by simp; omega) _).setCell (by simp; omega) _⟩
  cases st
  rotate_left
  · have HR : Hid (r = (⟨0, 0⟩, false, 0)) := Lib.hid (by simpa using HR0.out.symm)
    clear HR0
    go_enter Try.func9, Try.ntmps9
    go_wp2
    refine wp_scope_jumps 0 (fun _ _ => False) (fun _ _ => 0) rfl ?_ (fun _ _ h => h.elim)
    go_wp2_with fail
    refine (HA.out _).mono ?_
    rintro e w1 ⟨rfl, hb⟩
    have P := Lib.hid (heap_call hb (heap_old (heap_old (heap_new (W := w) rfl))))
    have Q : Hid (w1.heap[w.heap.size + 1]? = some (.cells #[.bool has, .int .i64 k, .int .i64 h, .int .i64 o, .int .i64 c] 27)) := heap_call hb (heap_old (heap_new (by simp)))
    have BX : Hid (w1.heap[w.heap.size + 1 + 1]? = some (.cells #[.int .i64 0, .int .i64 0] 25)) := heap_call hb (heap_new (by simp))
    have HB1 := Lib.hid ((((below_new _).alloc (by simp) _).alloc (by simp; omega) _).trans (hb.mono (by simp; omega)))
    have p0 : w1.cell? ⟨w.heap.size, 0, none⟩ = some (.int .i64 n) := cell_of P.out 0
    have p1 : w1.cell? ⟨w.heap.size, 1, none⟩ = some (.int .i64 l) := cell_of P.out 1
    have p2 : w1.cell? ⟨w.heap.size, 2, none⟩ = some (.int .i64 s) := cell_of P.out 2
    have q3 : w1.cell? ⟨w.heap.size + 1, 3, none⟩ = some (.int .i64 o) := cell_of Q.out 3
    clear hb
    go_wp2_with fail
    refine (HB.out _ _ (ints_new2 _ _ _ _ rfl)).mono ?_
    rintro e w2 ⟨rfl, hb⟩
    have Q2 := Lib.hid (heap_call hb (heap_old Q.out))
    have BX2 := Lib.hid (heap_call hb (heap_old BX.out))
    have HB2 := Lib.hid ((HB1.out.alloc HB1.out.size _).trans (hb.mono (by have := HB1.out.size; simp; omega)))
    have r0 : w2.cell? ⟨w.heap.size + 1, 0, none⟩ = some (.bool has) := cell_of Q2.out 0
    have r1 : w2.cell? ⟨w.heap.size + 1, 1, none⟩ = some (.int .i64 k) := cell_of Q2.out 1
    have r2 : w2.cell? ⟨w.heap.size + 1, 2, none⟩ = some (.int .i64 h) := cell_of Q2.out 2
    have r3 : w2.cell? ⟨w.heap.size + 1, 3, none⟩ = some (.int .i64 o) := cell_of Q2.out 3
    have r4 : w2.cell? ⟨w.heap.size + 1, 4, none⟩ = some (.int .i64 c) := cell_of Q2.out 4
    clear hb p0 p1 p2 q3
    go_wp2_with fail
    refine (HC.out _).mono ?_
    rintro e w3 ⟨rfl, rfl⟩
    go_wp2_with fail
    refine (HS.out _).mono ?_
    rintro e w4 ⟨rfl, hb⟩
    have Q4 := Lib.hid (heap_call hb Q2.out)
    have BX4 := Lib.hid (heap_call hb BX2.out)
    have HB4 := Lib.hid (HB2.out.trans (hb.mono HB2.out.size))
    have t1 : w4.cell? ⟨w.heap.size + 1, 1, none⟩ = some (.int .i64 k) := cell_of Q4.out 1
    have t2 : w4.cell? ⟨w.heap.size + 1, 2, none⟩ = some (.int .i64 h) := cell_of Q4.out 2
    clear hb r0 r1 r2 r3 r4
    have c0 : w4.cell? ⟨w.heap.size + 1 + 1, 0, none⟩ = some (.int .i64 0) := cell_of BX4.out 0
    have c1 : w4.cell? ⟨w.heap.size + 1 + 1, 1, none⟩ = some (.int .i64 0) := cell_of BX4.out 1
    have f0 := free_of BX4.out 0
    have f1 := free_of BX4.out 1
    go_wp2
    simp only [Exit.jump]
    refine bodyPost_ret (v := .tuple #[.agg #[.int .i64 0, .int .i64 0], .bool false, .int .i64 0]) (by simp [results, Try.results9, go_sem, c0, c1]) rfl ?_
    rw [HR.out]
    exact ⟨rfl, (HB4.out.setCell (by simp; omega) _).setCell (by simp; omega) _⟩
  · have HR : Hid (r = (⟨k, h⟩, true, 0)) := Lib.hid (by simpa using HR0.out.symm)
    clear HR0
    go_enter Try.func9, Try.ntmps9
    go_wp2
    refine wp_scope_jumps 0 (fun _ _ => False) (fun _ _ => 0) rfl ?_ (fun _ _ h => h.elim)
    go_wp2_with fail
    refine (HA.out _).mono ?_
    rintro e w1 ⟨rfl, hb⟩
    have P := Lib.hid (heap_call hb (heap_old (heap_old (heap_new (W := w) rfl))))
    have Q : Hid (w1.heap[w.heap.size + 1]? = some (.cells #[.bool has, .int .i64 k, .int .i64 h, .int .i64 o, .int .i64 c] 27)) := heap_call hb (heap_old (heap_new (by simp)))
    have BX : Hid (w1.heap[w.heap.size + 1 + 1]? = some (.cells #[.int .i64 0, .int .i64 0] 25)) := heap_call hb (heap_new (by simp))
    have HB1 := Lib.hid ((((below_new _).alloc (by simp) _).alloc (by simp; omega) _).trans (hb.mono (by simp; omega)))
    have p0 : w1.cell? ⟨w.heap.size, 0, none⟩ = some (.int .i64 n) := cell_of P.out 0
    have p1 : w1.cell? ⟨w.heap.size, 1, none⟩ = some (.int .i64 l) := cell_of P.out 1
    have p2 : w1.cell? ⟨w.heap.size, 2, none⟩ = some (.int .i64 s) := cell_of P.out 2
    have q3 : w1.cell? ⟨w.heap.size + 1, 3, none⟩ = some (.int .i64 o) := cell_of Q.out 3
    clear hb
    go_wp2_with fail
    refine (HB.out _ _ (ints_new2 _ _ _ _ rfl)).mono ?_
    rintro e w2 ⟨rfl, hb⟩
    have Q2 := Lib.hid (heap_call hb (heap_old Q.out))
    have BX2 := Lib.hid (heap_call hb (heap_old BX.out))
    have HB2 := Lib.hid ((HB1.out.alloc HB1.out.size _).trans (hb.mono (by have := HB1.out.size; simp; omega)))
    have r0 : w2.cell? ⟨w.heap.size + 1, 0, none⟩ = some (.bool has) := cell_of Q2.out 0
    have r1 : w2.cell? ⟨w.heap.size + 1, 1, none⟩ = some (.int .i64 k) := cell_of Q2.out 1
    have r2 : w2.cell? ⟨w.heap.size + 1, 2, none⟩ = some (.int .i64 h) := cell_of Q2.out 2
    have r3 : w2.cell? ⟨w.heap.size + 1, 3, none⟩ = some (.int .i64 o) := cell_of Q2.out 3
    have r4 : w2.cell? ⟨w.heap.size + 1, 4, none⟩ = some (.int .i64 c) := cell_of Q2.out 4
    clear hb p0 p1 p2 q3
    go_wp2_with fail
    refine (HC.out _).mono ?_
    rintro e w3 ⟨rfl, rfl⟩
    go_wp2_with fail
    refine (HS.out _).mono ?_
    rintro e w4 ⟨rfl, hb⟩
    have Q4 := Lib.hid (heap_call hb Q2.out)
    have BX4 := Lib.hid (heap_call hb BX2.out)
    have HB4 := Lib.hid (HB2.out.trans (hb.mono HB2.out.size))
    have t1 : w4.cell? ⟨w.heap.size + 1, 1, none⟩ = some (.int .i64 k) := cell_of Q4.out 1
    have t2 : w4.cell? ⟨w.heap.size + 1, 2, none⟩ = some (.int .i64 h) := cell_of Q4.out 2
    clear hb r0 r1 r2 r3 r4
    have c0 : w4.cell? ⟨w.heap.size + 1 + 1, 0, none⟩ = some (.int .i64 0) := cell_of BX4.out 0
    have c1 : w4.cell? ⟨w.heap.size + 1 + 1, 1, none⟩ = some (.int .i64 0) := cell_of BX4.out 1
    have f0 := free_of BX4.out 0
    have f1 := free_of BX4.out 1
    go_wp2
    simp only [Exit.jump]
    refine bodyPost_ret (v := .tuple #[.agg #[.int .i64 k, .int .i64 h], .bool true, .int .i64 0]) (by simp [results, Try.results9, go_sem, c0, c1]) rfl ?_
    rw [HR.out]
    exact ⟨rfl, (HB4.out.setCell (by simp; omega) _).setCell (by simp; omega) _⟩
end Go.Proofs.Ytoanpfbdhkgncaa
