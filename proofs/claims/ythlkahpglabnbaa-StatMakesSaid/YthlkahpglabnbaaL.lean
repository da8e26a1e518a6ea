/-
  PROVED: The law's works returns true and leaves what was there as it was; a made row of statuses. CONDITIONS: none.
-/
import Derived.Test.YthlkahpglabnbaaK
import Derived.OwnWalk
namespace Go.Proofs.Ythlkahpglabnbaa
open Go.RowKit
set_option maxRecDepth 100000
set_option maxHeartbeats 400000
def St.zero : St := ⟨0, false, 0, 0⟩
theorem made_flat (n : Nat) : (madeCells (Value.agg #[.int .i64 0, .bool false, .int .i64 0, .int .i64 0]).cells (n * 4)).toList = flat (List.replicate n St.zero) := by
  apply List.ext_getElem?
  intro j
  by_cases hj : j < n * 4
  · have h1 := flat_get (List.replicate n St.zero) (j / 4) (j % 4) (by simp; omega) (by omega)
    rw [show j / 4 * 4 + j % 4 = j by omega] at h1
    rw [h1, List.getElem_replicate]
    have h4 : j % 4 < 4 := by omega
    rcases (show j % 4 = 0 ∨ j % 4 = 1 ∨ j % 4 = 2 ∨ j % 4 = 3 by omega) with h | h | h | h <;> simp [madeCells, Value.cells, hj, St.cells, St.zero, h]
  · rw [List.getElem?_eq_none (by simp [madeCells]; omega), List.getElem?_eq_none (by rw [flat_length]; simp; omega)]
theorem oper_make {w : World} {o : Oper} {a : Act} {K : Act → World → Prop} {Q : Exit → Act → World → Prop} (l c : Operand) (hop : o.op = Op.makeSlice 24 l c) (n : Nat) (hl : a.eval l = .int .i64 (n : Int)) (hc : a.eval c = .int .i64 (n : Int)) (hn : n ≤ 1000) (base : Nat) (hb : base ≤ w.heap.size) (g : Nat) (hg : w.heap.size = g)
    (hK : ∀ w', w'.ownsRow base 27 4 (.slice (some ⟨g, 0, none⟩) n n) n (flat (List.replicate n St.zero)) → w.grownBy w' none → K (a.put o.dst (.slice (some ⟨g, 0, none⟩) n n)) w') : o.wp Try.prog a w K Q := by
  subst hg
  obtain ⟨i0, hi, hz0, hz1, hz2⟩ := info_parts Try.info27
  obtain ⟨w', hrun, r1, r2⟩ := run_make_full (P := Try.prog) w base 24 27 i0 _ 4 Try.underlying24 hi hz0 hz1 .i64 .i64 n (by rw [hz2]; omega) (by unfold maxLen; omega) hb
  rw [made_flat] at r1
  unfold Oper.wp
  simp [execOp, hop, hl, hc, hrun, Result.andThen]
  exact hK _ r1 r2
theorem below_of_none {w w' : World} (h : w.grownBy w' none) : Below w.heap.size w w' := ⟨h.os, h.tape, h.output, h.size, fun i hi => h.block i hi (by simp)⟩
theorem learn_far : learn 2 1 1 [⟨0, false, 0, 0⟩, ⟨0, false, 0, 0⟩] 9 ⟨2, true, 3, 0⟩ = ([], false, 4) := by decide
theorem two_stats {w : World} {B g : Nat} (h : w.ownsRow B 27 4 (.slice (some ⟨g, 0, none⟩) 2 2) 2 (flat (List.replicate 2 St.zero))) : Stats w (.slice (some ⟨g, 0, none⟩) 2 2) [⟨0, false, 0, 0⟩, ⟨0, false, 0, 0⟩] :=
  Stats.of_row (l := [⟨0, false, 0, 0⟩, ⟨0, false, 0, 0⟩]) h
theorem learn_call (w : World) (g : Nat) (h : Stats w (.slice (some ⟨g, 0, none⟩) 2 2) [⟨0, false, 0, 0⟩, ⟨0, false, 0, 0⟩]) :
    Calls Try.prog 9 #[.agg #[.int .i64 2, .int .i64 1, .int .i64 1], .slice (some ⟨g, 0, none⟩) 2 2, .int .i64 9, .agg #[.int .i64 2, .bool true, .int .i64 3, .int .i64 0]] w fun e w' =>
      (∃ v, e = .returned (.tuple #[v, .bool false, .int .i64 4])) ∧ Below w.heap.size w w' := by
  have h1 := learn_any 2 1 1 _ _ 9 ⟨2, true, 3, 0⟩ w h (fun m c h => by cases h) (by simp) (by omega) (by omega)
  rw [learn_far] at h1
  exact h1.mono fun e w' ⟨⟨v, h1, _⟩, h2⟩ => ⟨⟨v, h1⟩, h2⟩
theorem works_any (w : World) : Calls Try.prog 7 #[] w fun e w' => e = .returned (.bool true) ∧ Below w.heap.size w w' := by
  have HLC := Lib.hid learn_call
  go_enter Try.func7, Try.ntmps7
  go_upto_region 2 with fail
  go_cut [4] (fun s4 wx => s4 = .int .i64 4 ∧ Below w.heap.size w wx ∧ wx.cell? ⟨w.heap.size, 0, none⟩ = some (.int .i64 2) ∧ wx.cell? ⟨w.heap.size, 1, none⟩ = some (.bool true) ∧ wx.cell? ⟨w.heap.size, 2, none⟩ = some (.int .i64 3) ∧ wx.cell? ⟨w.heap.size, 3, none⟩ = some (.int .i64 0))
  case first =>
    have p0 : (w.alloc (.cells #[.int .i64 2, .bool true, .int .i64 3, .int .i64 0] 27)).drew.cell? ⟨w.heap.size, 0, none⟩ = some (.int .i64 2) := by simp
    have p1 : (w.alloc (.cells #[.int .i64 2, .bool true, .int .i64 3, .int .i64 0] 27)).drew.cell? ⟨w.heap.size, 1, none⟩ = some (.bool true) := by simp
    have p2 : (w.alloc (.cells #[.int .i64 2, .bool true, .int .i64 3, .int .i64 0] 27)).drew.cell? ⟨w.heap.size, 2, none⟩ = some (.int .i64 3) := by simp
    have p3 : (w.alloc (.cells #[.int .i64 2, .bool true, .int .i64 3, .int .i64 0] 27)).drew.cell? ⟨w.heap.size, 3, none⟩ = some (.int .i64 0) := by simp
    refine wp_region_any (by kernel_rfl) ?_
    change wpAny _ _ _ _ _ _ _ (World.drew _)
    refine wpAny_take (i := 0) (oi := ⟨some 7, _, _, _, _, _⟩) (v := ?_) rfl (by kernel_rfl) (by kernel_rfl) (by kernel_rfl) (fun _ _ _ h => h) (Or.inl ⟨by rfl, ?_⟩) ?_
    rotate_left
    · intro W; go_simp; with_reducible rfl
    (try simp only [Act.put, List.setIfInBounds_toArray, List.set_cons_zero, List.set_cons_succ])
    refine wpAny_ready (rs := [1, 2]) (by kernel_rfl) (by simp) ?_
    refine AllReady.cons (o := ⟨some 8, _, _, _, _, _⟩) rfl (fun K hK => ?_) (AllReady.cons (o := ⟨some 9, _, _, _, _, _⟩) rfl (fun K hK => ?_) (AllReady.nil))
    · refine (if_pos rfl).mpr ?_
      refine oper_make _ _ rfl 2 rfl rfl (by omega) (w.heap.size + 1) (by simp) (w.heap.size + 1) (by simp) ?_
      intro w2 ho2 hg2
      have HO2 := Lib.hid (two_stats ho2)
      have hb2 := below_of_none hg2
      have HB2 := Lib.hid ((below_new _).drew.trans (hb2.mono (by simp)))
      clear ho2 hg2
      try have q0 := (hb2.cell (p := ⟨w.heap.size, 0, none⟩) (by simp)).trans p0
      try have q1 := (hb2.cell (p := ⟨w.heap.size, 1, none⟩) (by simp)).trans p1
      try have q2 := (hb2.cell (p := ⟨w.heap.size, 2, none⟩) (by simp)).trans p2
      try have q3 := (hb2.cell (p := ⟨w.heap.size, 3, none⟩) (by simp)).trans p3
      have hs2 := Nat.lt_of_lt_of_le (show w.heap.size < _ by simp) hb2.size
      clear hb2
      refine hK _ _ ?_
      clear hK K
      (try simp only [Act.put, List.setIfInBounds_toArray, List.set_cons_zero, List.set_cons_succ])
      refine wpAny_ready (rs := [2]) (by kernel_rfl) (by simp) ?_
      refine AllReady.cons (o := ⟨some 9, _, _, _, _, _⟩) rfl (fun K hK => ?_) (AllReady.nil)
      go_simp
      refine hK _ _ ?_
      clear hK K
      (try simp only [Act.put, List.setIfInBounds_toArray, List.set_cons_zero, List.set_cons_succ])
      refine wpAny_ready (rs := [3]) (by kernel_rfl) (by simp) ?_
      refine AllReady.cons (o := ⟨some 10, _, _, _, _, _⟩) rfl (fun K hK => ?_) (AllReady.nil)
      go_simp
      refine (HLC.out _ _ HO2.out).mono ?_
      rintro e w3 ⟨⟨v3, rfl⟩, hb3⟩
      have q0 := (hb3.cell (p := ⟨w.heap.size, 0, none⟩) hs2).trans q0
      have q1 := (hb3.cell (p := ⟨w.heap.size, 1, none⟩) hs2).trans q1
      have q2 := (hb3.cell (p := ⟨w.heap.size, 2, none⟩) hs2).trans q2
      have q3 := (hb3.cell (p := ⟨w.heap.size, 3, none⟩) hs2).trans q3
      have HB := Lib.hid (HB2.out.trans (hb3.mono HB2.out.size))
      clear hb3
      refine hK _ _ ?_
      clear hK K
      (try simp only [Act.put, List.setIfInBounds_toArray, List.set_cons_zero, List.set_cons_succ])
      refine wpAny_take (i := 4) (oi := ⟨some 6, _, _, _, _, _⟩) (v := ?_) rfl (by kernel_rfl) (by kernel_rfl) (by kernel_rfl) (fun _ _ _ h => h) (Or.inl ⟨by rfl, ?_⟩) ?_
      rotate_left
      · intro W; go_simp; with_reducible rfl
      (try simp only [Act.put, List.setIfInBounds_toArray, List.set_cons_zero, List.set_cons_succ])
      refine wpAny_take (i := 5) (oi := ⟨some 11, _, _, _, _, _⟩) (v := ?_) rfl (by kernel_rfl) (by kernel_rfl) (by kernel_rfl) (fun _ _ _ h => h) (Or.inl ⟨by rfl, ?_⟩) ?_
      rotate_left
      · intro W; go_simp; with_reducible rfl
      (try simp only [Act.put, List.setIfInBounds_toArray, List.set_cons_zero, List.set_cons_succ])
      refine wpAny_take (i := 6) (oi := ⟨some 12, _, _, _, _, _⟩) (v := ?_) rfl (by kernel_rfl) (by kernel_rfl) (by kernel_rfl) (fun _ _ _ h => h) (Or.inl ⟨by rfl, ?_⟩) ?_
      rotate_left
      · intro W; go_simp; with_reducible rfl
      (try simp only [Act.put, List.setIfInBounds_toArray, List.set_cons_zero, List.set_cons_succ])
      refine wpAny_take (i := 7) (oi := ⟨some 13, _, _, _, _, _⟩) (v := ?_) rfl (by kernel_rfl) (by kernel_rfl) (by kernel_rfl) (fun _ _ _ h => h) (Or.inl ⟨by rfl, ?_⟩) ?_
      rotate_left
      · intro W; go_simp; with_reducible rfl
      (try simp only [Act.put, List.setIfInBounds_toArray, List.set_cons_zero, List.set_cons_succ])
      refine wpAny_take (i := 8) (oi := ⟨some 2, _, _, _, _, _⟩) (v := ?_) rfl (by kernel_rfl) (by kernel_rfl) (by kernel_rfl) (fun _ _ _ h => h) (Or.inl ⟨by rfl, ?_⟩) ?_
      rotate_left
      · intro W; go_simp; with_reducible rfl
      (try simp only [Act.put, List.setIfInBounds_toArray, List.set_cons_zero, List.set_cons_succ])
      refine wpAny_take (i := 9) (oi := ⟨some 3, _, _, _, _, _⟩) (v := ?_) rfl (by kernel_rfl) (by kernel_rfl) (by kernel_rfl) (fun _ _ _ h => h) (Or.inl ⟨by rfl, ?_⟩) ?_
      rotate_left
      · intro W; go_simp; with_reducible rfl
      (try simp only [Act.put, List.setIfInBounds_toArray, List.set_cons_zero, List.set_cons_succ])
      refine wpAny_take (i := 10) (oi := ⟨some 4, _, _, _, _, _⟩) (v := ?_) rfl (by kernel_rfl) (by kernel_rfl) (by kernel_rfl) (fun _ _ _ h => h) (Or.inl ⟨by rfl, ?_⟩) ?_
      rotate_left
      · intro W; go_simp; with_reducible rfl
      (try simp only [Act.put, List.setIfInBounds_toArray, List.set_cons_zero, List.set_cons_succ])
      refine wpAny_done (by kernel_rfl) ?_ _
      go_wp2_with fail
      go_meet
      exact ⟨rfl, HB.out, q0, q1, q2, q3⟩
    · go_simp
      refine hK _ _ ?_
      clear hK K
      (try simp only [Act.put, List.setIfInBounds_toArray, List.set_cons_zero, List.set_cons_succ])
      refine wpAny_ready (rs := [1]) (by kernel_rfl) (by simp) ?_
      refine AllReady.cons (o := ⟨some 8, _, _, _, _, _⟩) rfl (fun K hK => ?_) (AllReady.nil)
      refine (if_pos rfl).mpr ?_
      refine oper_make _ _ rfl 2 rfl rfl (by omega) (w.heap.size + 1) (by simp) (w.heap.size + 1) (by simp) ?_
      intro w2 ho2 hg2
      have HO2 := Lib.hid (two_stats ho2)
      have hb2 := below_of_none hg2
      have HB2 := Lib.hid ((below_new _).drew.trans (hb2.mono (by simp)))
      clear ho2 hg2
      try have q0 := (hb2.cell (p := ⟨w.heap.size, 0, none⟩) (by simp)).trans p0
      try have q1 := (hb2.cell (p := ⟨w.heap.size, 1, none⟩) (by simp)).trans p1
      try have q2 := (hb2.cell (p := ⟨w.heap.size, 2, none⟩) (by simp)).trans p2
      try have q3 := (hb2.cell (p := ⟨w.heap.size, 3, none⟩) (by simp)).trans p3
      have hs2 := Nat.lt_of_lt_of_le (show w.heap.size < _ by simp) hb2.size
      clear hb2
      refine hK _ _ ?_
      clear hK K
      (try simp only [Act.put, List.setIfInBounds_toArray, List.set_cons_zero, List.set_cons_succ])
      refine wpAny_ready (rs := [3]) (by kernel_rfl) (by simp) ?_
      refine AllReady.cons (o := ⟨some 10, _, _, _, _, _⟩) rfl (fun K hK => ?_) (AllReady.nil)
      go_simp
      refine (HLC.out _ _ HO2.out).mono ?_
      rintro e w3 ⟨⟨v3, rfl⟩, hb3⟩
      have q0 := (hb3.cell (p := ⟨w.heap.size, 0, none⟩) hs2).trans q0
      have q1 := (hb3.cell (p := ⟨w.heap.size, 1, none⟩) hs2).trans q1
      have q2 := (hb3.cell (p := ⟨w.heap.size, 2, none⟩) hs2).trans q2
      have q3 := (hb3.cell (p := ⟨w.heap.size, 3, none⟩) hs2).trans q3
      have HB := Lib.hid (HB2.out.trans (hb3.mono HB2.out.size))
      clear hb3
      refine hK _ _ ?_
      clear hK K
      (try simp only [Act.put, List.setIfInBounds_toArray, List.set_cons_zero, List.set_cons_succ])
      refine wpAny_take (i := 4) (oi := ⟨some 6, _, _, _, _, _⟩) (v := ?_) rfl (by kernel_rfl) (by kernel_rfl) (by kernel_rfl) (fun _ _ _ h => h) (Or.inl ⟨by rfl, ?_⟩) ?_
      rotate_left
      · intro W; go_simp; with_reducible rfl
      (try simp only [Act.put, List.setIfInBounds_toArray, List.set_cons_zero, List.set_cons_succ])
      refine wpAny_take (i := 5) (oi := ⟨some 11, _, _, _, _, _⟩) (v := ?_) rfl (by kernel_rfl) (by kernel_rfl) (by kernel_rfl) (fun _ _ _ h => h) (Or.inl ⟨by rfl, ?_⟩) ?_
      rotate_left
      · intro W; go_simp; with_reducible rfl
      (try simp only [Act.put, List.setIfInBounds_toArray, List.set_cons_zero, List.set_cons_succ])
      refine wpAny_take (i := 6) (oi := ⟨some 12, _, _, _, _, _⟩) (v := ?_) rfl (by kernel_rfl) (by kernel_rfl) (by kernel_rfl) (fun _ _ _ h => h) (Or.inl ⟨by rfl, ?_⟩) ?_
      rotate_left
      · intro W; go_simp; with_reducible rfl
      (try simp only [Act.put, List.setIfInBounds_toArray, List.set_cons_zero, List.set_cons_succ])
      refine wpAny_take (i := 7) (oi := ⟨some 13, _, _, _, _, _⟩) (v := ?_) rfl (by kernel_rfl) (by kernel_rfl) (by kernel_rfl) (fun _ _ _ h => h) (Or.inl ⟨by rfl, ?_⟩) ?_
      rotate_left
      · intro W; go_simp; with_reducible rfl
      (try simp only [Act.put, List.setIfInBounds_toArray, List.set_cons_zero, List.set_cons_succ])
      refine wpAny_take (i := 8) (oi := ⟨some 2, _, _, _, _, _⟩) (v := ?_) rfl (by kernel_rfl) (by kernel_rfl) (by kernel_rfl) (fun _ _ _ h => h) (Or.inl ⟨by rfl, ?_⟩) ?_
      rotate_left
      · intro W; go_simp; with_reducible rfl
      (try simp only [Act.put, List.setIfInBounds_toArray, List.set_cons_zero, List.set_cons_succ])
      refine wpAny_take (i := 9) (oi := ⟨some 3, _, _, _, _, _⟩) (v := ?_) rfl (by kernel_rfl) (by kernel_rfl) (by kernel_rfl) (fun _ _ _ h => h) (Or.inl ⟨by rfl, ?_⟩) ?_
      rotate_left
      · intro W; go_simp; with_reducible rfl
      (try simp only [Act.put, List.setIfInBounds_toArray, List.set_cons_zero, List.set_cons_succ])
      refine wpAny_take (i := 10) (oi := ⟨some 4, _, _, _, _, _⟩) (v := ?_) rfl (by kernel_rfl) (by kernel_rfl) (by kernel_rfl) (fun _ _ _ h => h) (Or.inl ⟨by rfl, ?_⟩) ?_
      rotate_left
      · intro W; go_simp; with_reducible rfl
      (try simp only [Act.put, List.setIfInBounds_toArray, List.set_cons_zero, List.set_cons_succ])
      refine wpAny_done (by kernel_rfl) ?_ _
      go_wp2_with fail
      go_meet
      exact ⟨rfl, HB.out, q0, q1, q2, q3⟩
  case rest =>
    obtain ⟨rfl, hbc, q0, q1, q2, q3⟩ := hcut
    have HB := Lib.hid hbc
    clear hbc
    have hs := World.block_lt_of_cell? wc _ q0
    go_wp2_with fail
    refine (more_any ⟨3, false, 0, 0⟩ ⟨2, true, 3, 0⟩ _).mono ?_
    rintro e w2 ⟨he, hb⟩
    rw [show St.more ⟨3, false, 0, 0⟩ ⟨2, true, 3, 0⟩ = true by decide] at he
    subst he
    have q0 := (hb.cell (p := ⟨w.heap.size, 0, none⟩) hs).trans q0
    have q1 := (hb.cell (p := ⟨w.heap.size, 1, none⟩) hs).trans q1
    have q2 := (hb.cell (p := ⟨w.heap.size, 2, none⟩) hs).trans q2
    have q3 := (hb.cell (p := ⟨w.heap.size, 3, none⟩) hs).trans q3
    have HB2 := Lib.hid (HB.out.trans (hb.mono HB.out.size))
    have hs2 := Nat.lt_of_lt_of_le (show w.heap.size < _ from hs) hb.size
    clear hb hs
    go_wp2_with fail
    refine (more_any ⟨2, true, 3, 0⟩ ⟨2, false, 0, 0⟩ _).mono ?_
    rintro e w3 ⟨he, hb⟩
    rw [show St.more ⟨2, true, 3, 0⟩ ⟨2, false, 0, 0⟩ = true by decide] at he
    subst he
    have q0 := (hb.cell (p := ⟨w.heap.size, 0, none⟩) hs2).trans q0
    have q1 := (hb.cell (p := ⟨w.heap.size, 1, none⟩) hs2).trans q1
    have q2 := (hb.cell (p := ⟨w.heap.size, 2, none⟩) hs2).trans q2
    have q3 := (hb.cell (p := ⟨w.heap.size, 3, none⟩) hs2).trans q3
    have HB3 := Lib.hid (HB2.out.trans (hb.mono HB2.out.size))
    have hs3 := Nat.lt_of_lt_of_le hs2 hb.size
    clear hb hs2
    go_wp2_with fail
    refine (more_any ⟨2, true, 3, 0⟩ ⟨2, true, 3, 0⟩ _).mono ?_
    rintro e w4 ⟨he, hb⟩
    rw [show St.more ⟨2, true, 3, 0⟩ ⟨2, true, 3, 0⟩ = false by decide] at he
    subst he
    have HB4 := Lib.hid (HB3.out.trans (hb.mono HB3.out.size))
    clear hb hs3
    go_wp2_with fail
    refine (checkSt_any ⟨2, false, 3, 0⟩ _).mono ?_
    rintro e w5 ⟨he, hb⟩
    rw [show St.no ⟨2, false, 3, 0⟩ = 2 by decide] at he
    subst he
    have HB5 := Lib.hid (HB4.out.trans (hb.mono HB4.out.size))
    clear hb
    go_wp2_with (go_at_call 12; refine (num_any _ _).mono ?_; rintro e w' ⟨rfl, rfl⟩)
    go_ret
    exact ⟨rfl, HB5.out⟩
end Go.Proofs.Ythlkahpglabnbaa
