/-
  PROVED: The walk of the law StatLearns: it returns true and leaves what was there as it was. CONDITIONS: the list came in; the site is an int.
-/
import Derived.Test.YthlkahpglabnbaaL
namespace Go.Proofs.Ythlkahpglabnbaa
open Go.RowKit
set_option maxRecDepth 100000
set_option maxHeartbeats 2000000
/-- A slice of statuses that came in. -/
def StatsIn (w : World) (a : Option Addr) (len cap : Nat) (l : List St) : Prop := len = l.length ∧ Stats w (.slice a len cap) l ∧ (a = none → cap = 0)
theorem learns_law (n l s : Int) (a : Option Addr) (len cap : Nat) (xs : List St) (at_ : Int) (x : St) (w : World) (h : StatsIn w a len cap xs) (ha0 : -9223372036854775808 ≤ at_) (ha1 : at_ ≤ 9223372036854775807) :
    Calls Try.prog 3 #[shapeV n l s, .slice a len cap, .agg #[.int .i64 at_, .int .i64 x.over, .bool x.pend, .int .i64 x.mode, .int .i64 x.prio]] w fun e w' => e = .returned (.bool true) ∧ Below w.heap.size w w' := by
  obtain ⟨rfl, hst, hn⟩ := h
  have hn' : ∀ m c, Value.slice a xs.length cap = .slice none m c → c = 0 := fun m c h => by cases h; exact hn rfl
  have HST := Lib.hid hst
  have HN := Lib.hid hn'
  clear hn hn' hst
  have hb0 : Below w.heap.size w ((w.alloc (.cells #[.int .i64 n, .int .i64 l, .int .i64 s] 23)).alloc (.cells #[.int .i64 at_, .int .i64 x.over, .bool x.pend, .int .i64 x.mode, .int .i64 x.prio] 29)) := (below_new _).alloc (by simp) _
  have HB0 := Lib.hid hb0
  clear hb0
  unfold shapeV
  by_cases hl : (300 : Int) < (xs.length : Int)
  · go_enter Try.func3, Try.ntmps3
    go_wp2_with fail
    refine (works_any _).mono ?_
    rintro e w1 ⟨rfl, hb⟩
    have HB := Lib.hid (HB0.out.trans (hb.mono HB0.out.size))
    clear hb
    go_wp2
    go_ret
    exact ⟨rfl, HB.out⟩
  · have hl3 : xs.length ≤ 300 := by omega
    go_enter Try.func3, Try.ntmps3
    go_wp2_with fail
    refine (lent_any _ xs _ (HST.out.below HB0.out (Nat.le_refl _)) HN.out (by omega)).mono ?_
    rintro e w1 ⟨⟨g, cp, rfl, ho1, hg1, hg2⟩, hb⟩
    have q := fun i (hi : i < 8) (v : Value) (h : (((w.alloc (.cells #[.int .i64 n, .int .i64 l, .int .i64 s] 23)).alloc (.cells #[.int .i64 at_, .int .i64 x.over, .bool x.pend, .int .i64 x.mode, .int .i64 x.prio] 29))).cell? ⟨w.heap.size, i, none⟩ = some v) => (hb.cell (p := ⟨w.heap.size, i, none⟩) (by simp; omega)).trans h
    have r := fun i (hi : i < 8) (v : Value) (h : (((w.alloc (.cells #[.int .i64 n, .int .i64 l, .int .i64 s] 23)).alloc (.cells #[.int .i64 at_, .int .i64 x.over, .bool x.pend, .int .i64 x.mode, .int .i64 x.prio] 29))).cell? ⟨w.heap.size + 1, i, none⟩ = some v) => (hb.cell (p := ⟨w.heap.size + 1, i, none⟩) (by simp)).trans h
    have q0 := q 0 (by omega) (.int .i64 n) (by simp)
    have q1 := q 1 (by omega) (.int .i64 l) (by simp)
    have q2 := q 2 (by omega) (.int .i64 s) (by simp)
    have r0 := r 0 (by omega) (.int .i64 at_) (by simp)
    have r1 := r 1 (by omega) (.int .i64 x.over) (by simp)
    have r2 := r 2 (by omega) (.bool x.pend) (by simp)
    have r3 := r 3 (by omega) (.int .i64 x.mode) (by simp)
    have r4 := r 4 (by omega) (.int .i64 x.prio) (by simp)
    have hs1 : w.heap.size + 1 < w1.heap.size := by have := hb.size; simp at this; omega
    have HB1 := Lib.hid (HB0.out.trans (hb.mono HB0.out.size))
    have HSM : Hid (Stats w1 (.slice (some ⟨g, 0, none⟩) xs.length cp) xs) := Lib.hid ⟨_, _, rfl, by omega, fun h0 => ⟨g, 0, rfl, fun i hi => by
      have h := row_cell ho1 (by simp) i (by simp; omega)
      rw [List.getElem_append_left hi] at h
      rw [Nat.zero_add]; exact h⟩⟩
    have HO1 := Lib.hid ho1
    clear q r hb ho1
    go_wp2_with fail
    refine (learn_any n l s _ xs at_ x _ HSM.out (fun m c h => by cases h) (by omega) ha0 ha1).mono ?_
    rintro e w2 ⟨⟨v2, rfl, hs2, -⟩, hb⟩
    generalize hr : learn n l s xs at_ x = r at hs2 ⊢
    obtain ⟨ys, says, no⟩ := r
    have HR := Lib.hid hr
    have HS2 := Lib.hid hs2
    have HB2 := Lib.hid (HB1.out.trans (hb.mono HB1.out.size))
    have q0 := (hb.cell (p := ⟨w.heap.size, 0, none⟩) (by show w.heap.size < _; omega)).trans q0
    have q1 := (hb.cell (p := ⟨w.heap.size, 1, none⟩) (by show w.heap.size < _; omega)).trans q1
    have q2 := (hb.cell (p := ⟨w.heap.size, 2, none⟩) (by show w.heap.size < _; omega)).trans q2
    have r0 := (hb.cell (p := ⟨w.heap.size + 1, 0, none⟩) hs1).trans r0
    have r1 := (hb.cell (p := ⟨w.heap.size + 1, 1, none⟩) hs1).trans r1
    have r2 := (hb.cell (p := ⟨w.heap.size + 1, 2, none⟩) hs1).trans r2
    have r3 := (hb.cell (p := ⟨w.heap.size + 1, 3, none⟩) hs1).trans r3
    have r4 := (hb.cell (p := ⟨w.heap.size + 1, 4, none⟩) hs1).trans r4
    have HSM2 : Hid (Stats w2 (.slice (some ⟨g, 0, none⟩) xs.length cp) xs) := Lib.hid (HSM.out.below hb (Nat.le_refl _))
    have HO2 := Lib.hid (Row.below HO1.out hb)
    clear hb hr hs2 hs1
    go_wp2_with fail
    refine (refLearn_any n l s _ xs at_ x _ (HST.out.below HB2.out (Nat.le_refl _)) HN.out (by omega) ha0 ha1).mono ?_
    rw [HR.out]
    rintro e w3 ⟨⟨v3, rfl, hs3, -⟩, hb⟩
    have HS3 := Lib.hid hs3
    have HS23 : Hid (Stats w3 v2 ys) := Lib.hid (HS2.out.below hb (Nat.le_refl _))
    have HB3 := Lib.hid (HB2.out.trans (hb.mono HB2.out.size))
    have HSM3 : Hid (Stats w3 (.slice (some ⟨g, 0, none⟩) xs.length cp) xs) := Lib.hid (HSM2.out.below hb (Nat.le_refl _))
    have HO3 := Lib.hid (Row.below HO2.out hb)
    clear hb hs3 q0 q1 q2 r0 r1 r2 r3 r4
    go_wp2_with fail
    refine (same_yes _ _ ys _ HS23.out HS3.out).mono ?_
    rintro e w4 ⟨rfl, hb⟩
    have HB4 := Lib.hid (HB3.out.trans (hb.mono HB3.out.size))
    have HSM4 : Hid (Stats w4 (.slice (some ⟨g, 0, none⟩) xs.length cp) xs) := Lib.hid (HSM3.out.below hb (Nat.le_refl _))
    have HO4 := Lib.hid (Row.below HO3.out hb)
    clear hb
    go_wp2_with (first | (go_at_call 12; refine (num_any _ _).mono ?_; rintro e w' ⟨rfl, rfl⟩) | fail)
    refine (same_yes _ _ xs _ HSM4.out (HST.out.below HB4.out (Nat.le_refl _))).mono ?_
    rintro e w5 ⟨rfl, hb⟩
    have HB5 := Lib.hid (HB4.out.trans (hb.mono HB4.out.size))
    have ho5 := Row.below HO4.out hb
    obtain ⟨c0, -, -, -⟩ := row_cell ho5 (by simp) xs.length (by simp)
    rw [List.getElem_append_right (by omega)] at c0
    simp at c0
    clear hb ho5
    go_wp2_with fail
    refine (works_any _).mono ?_
    rintro e w6 ⟨rfl, hb⟩
    have HB6 := Lib.hid (HB5.out.trans (hb.mono HB5.out.size))
    clear hb
    go_wp2
    go_ret
    exact ⟨rfl, HB6.out⟩
end Go.Proofs.Ythlkahpglabnbaa
