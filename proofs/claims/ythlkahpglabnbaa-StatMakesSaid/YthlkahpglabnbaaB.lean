/-
  PROVED: The contract of site.Each's iterator: it yields every site of a shape that may be, in order, till the loop is left. CONDITIONS: the shape lies where the iterator looks.
-/
import Derived.Test.YthlkahpglabnbaaA
import Derived.RangeFuncBox
import Derived.RangeFuncLeaves
import Derived.RangeFuncCalls
import Derived.Shelf.Abstract
import Derived.Shelf.RegionOpen
import Derived.OwnWalkIn
import Derived.TacticsInMore
import Derived.LoopNIn
import Derived.LoopIn
namespace Go.Proofs.Ythlkahpglabnbaa
open Go.RowKit
attribute [local go_sem] Oper.semAt_some
/-- A site's first ticket. -/
def ticketV (s k : Int) : Value := .agg #[.int .i64 (wrap64 (k / s)), .int .i64 0, .int .i64 (k % s), .int .i64 1]
set_option maxRecDepth 100000
set_option maxHeartbeats 1000000
theorem first_any (n l s : Int) (k : Nat) (w : World) (h0 : 1 ≤ s) (h1 : s ≤ 4) (hk : k ≤ 300) : Calls Try.prog 37 #[shapeV n l s, .int .i64 k] w fun e w' => e = .returned (ticketV s k) ∧ Below w.heap.size w w' := by
  have hs : s ≠ 0 := by omega
  unfold shapeV
  go_enter Try.func37, Try.ntmps37
  go_wp2
  go_region
  all_goals go_wp2
  all_goals
    refine bodyPost_ret (v := ticketV s k) (by simp [results, Try.results37, go_sem, ticketV]) rfl ⟨rfl, ?_⟩
    exact ((below_new _).alloc (by simp) _).drew
/-- How many sites a lock has. -/
def siteNo (n l s : Int) : Nat := if shapeOk n l s then (n * s).toNat else 0
theorem shape_parts {n l s : Int} (h : shapeOk n l s = true) : 1 ≤ n ∧ n ≤ 64 ∧ 1 ≤ s ∧ s ≤ 4 := by
  simp [shapeOk] at h; omega
theorem many_le {n s : Int} (h : 1 ≤ n ∧ n ≤ 64 ∧ 1 ≤ s ∧ s ≤ 4) : 0 ≤ n * s ∧ n * s ≤ 256 :=
  ⟨Int.mul_nonneg (by omega) (by omega), Int.le_trans (Int.mul_le_mul_of_nonneg_right h.2.1 (by omega)) (by omega)⟩
theorem grown_of_below {w w' : World} (h : Below w.heap.size w w') : w.grownBy w' none := ⟨h.os, h.tape, h.output, h.size, fun i hi _ => h.block i hi⟩
theorem check_any (n l s : Int) (w : World) : Calls Try.prog 36 #[shapeV n l s] w fun e w' => e = .returned (.int .i64 (shapeNo n l s)) ∧ Below w.heap.size w w' := by
  have hr := asked_any n l s
  generalize shapeNo n l s = r at *
  have HR := Lib.hid hr
  clear hr
  unfold shapeV at *
  go_enter Try.func36, Try.ntmps36
  go_wp2_with fail
  refine (HR.out _).mono ?_
  rintro e w1 ⟨rfl, hb⟩
  have HB := Lib.hid ((below_new _).trans (hb.mono (by simp)))
  clear hb
  go_wp2
  go_ret
  exact ⟨rfl, HB.out⟩
theorem wpIn_scope_wide {n : Nat} {P : Program} {c : Code} {Q : Exit → Act → World → Prop} {a : Act} {w : World} (h : c.wpIn Fence.wide n P (Exit.noGoto Q) a w) : (Code.scope c).wpIn Fence.wide n P Q a w :=
  wpIn_wide.2 (wp_scope_straight (wpIn_wide.1 h))
theorem each_in (m : Nat) (hm : 1 ≤ m) (y Bs n₀ : Nat) (n l s : Int) (J Jx : List Nat → World → Prop) (W : World)
    (hA : AbidesFrom W.heap.size J) (hcells : W.cell? ⟨Bs, 0, none⟩ = some (.int .i64 n) ∧ W.cell? ⟨Bs, 1, none⟩ = some (.int .i64 l) ∧ W.cell? ⟨Bs, 2, none⟩ = some (.int .i64 s))
    (hY : ∀ pre (x : Nat) W1, J pre W1 → pre.length < siteNo n l s → YieldAt Fence.wide (m - 1) Try.prog y #[.int .i64 x, ticketV s x] W1 fun e W' =>
      (e = .returned (.bool true) ∧ J (pre ++ [x]) W' ∧ Below n₀ W1 W') ∨ (e = .returned (.bool false) ∧ Jx (pre ++ [x]) W'))
    (h0 : J [] W) :
    CallsIn Fence.wide m Try.prog 35 #[.func (.yield y) #[] #[], .pointer (some ⟨Bs, 0, none⟩)] W fun e W' => (∃ v, e = .returned v) ∧
      ((∃ ys, ys = List.range (siteNo n l s) ∧ J ys W') ∨ (∃ pre, pre <+: List.range (siteNo n l s) ∧ Jx pre W')) := by
  obtain ⟨hc0, hc1, hc2⟩ := hcells
  cases hok : shapeOk n l s with
  | false =>
    have hn : siteNo n l s = 0 := by simp [siteNo, hok]
    have hno : shapeNo n l s = 2 := by simp [shapeNo, hok]
    have hch := check_any n l s
    rw [hno] at hch
    have HCH := Lib.hid hch
    have HN := Lib.hid hn
    have HA := Lib.hid hA
    have H0 := Lib.hid h0
    clear hok hno hch hn hA hY h0
    unfold shapeV at HCH
    refine callsIn_of_wp Try.func35 rfl trivial ?_ rfl
    simp only [Try.ntmps35, List.size_toArray, List.length_cons, List.length_nil, Nat.reduceAdd, Nat.reduceSub, Array.replicate_succ, Array.replicate_zero, List.push_toArray, List.append_toArray, List.nil_append, List.cons_append]
    refine wpIn_scope_wide ?_
    gi_wp2_with fail
    refine ⟨trivial, ?_⟩
    refine (callsIn_wide.2 (HCH.out _)).mono ?_
    rintro e w1 ⟨rfl, hb⟩
    gi_wp2
    rw [Exit.noGoto_ret]
    refine bodyPost_ret (results_none rfl _ _ _) rfl ?_
    exact ⟨⟨_, rfl⟩, .inl ⟨_, by rw [HN.out]; rfl, HA.out _ _ _ none H0.out (grown_of_below hb) (fun r e => by cases e)⟩⟩
  | true =>
    obtain ⟨hs0, hs1, hs2, hs3⟩ := shape_parts hok
    have hsp := shape_parts hok
    obtain ⟨hm0, hm1⟩ := many_le hsp
    obtain ⟨c, hc⟩ := Int.eq_ofNat_of_zero_le hm0
    have hn : siteNo n l s = c := by simp only [siteNo, hok, if_true]; omega
    have hno : shapeNo n l s = 0 := by simp [shapeNo, hok]
    have hch := check_any n l s
    have hmy := fun w => many_any n l s w hs0 hs1 hs2 hs3
    rw [hno] at hch
    rw [hn] at hY ⊢
    rw [hc] at hmy hm0 hm1
    have HCH := Lib.hid hch
    have HMY := Lib.hid hmy
    have HA := Lib.hid hA
    have H0 := Lib.hid h0
    have HY := Lib.hid hY
    clear hok hno hch hn hA hY h0 hmy hsp hc
    have hcc : c ≤ 256 := by omega
    clear hm0 hm1
    refine callsIn_of_wp Try.func35 rfl trivial ?_ rfl
    simp only [Try.ntmps35, List.size_toArray, List.length_cons, List.length_nil, Nat.reduceAdd, Nat.reduceSub, Array.replicate_succ, Array.replicate_zero, List.push_toArray, List.append_toArray, List.nil_append, List.cons_append]
    refine wpIn_scope_wide ?_
    gi_wp2_with fail
    refine ⟨trivial, ?_⟩
    refine (callsIn_wide.2 (HCH.out _)).mono ?_
    rintro e w1 ⟨rfl, hb⟩
    have hd0 := (hb.cell (World.block_lt_of_cell? W _ hc0)).trans hc0
    have hd1 := (hb.cell (World.block_lt_of_cell? W _ hc1)).trans hc1
    have hd2 := (hb.cell (World.block_lt_of_cell? W _ hc2)).trans hc2
    have HB := Lib.hid hb
    clear hb hc0 hc1 hc2
    gi_wp2_with fail
    refine wpIn_label ?_
    gi_wp2_with fail
    refine ⟨trivial, ?_⟩
    refine (callsIn_wide.2 (HMY.out _)).mono ?_
    rintro e w2 ⟨rfl, hb2⟩
    have HB2 := Lib.hid ((HB.out.alloc HB.out.size (.cells #[.int .i64 n, .int .i64 l, .int .i64 s] 75)).trans (hb2.mono (by simp; have := HB.out.size; omega)))
    clear hb2 hd0 hd1 hd2
    gi_wp2_with fail
    gi_loopw [5, 15] (fun _ i wr => ∃ k : Nat, k ≤ c ∧ i = .int .i64 k ∧ J (List.range k) wr)
      (fun _ i _ => c - (intOf i).toNat)
    case atStart => exact ⟨0, Nat.zero_le _, rfl, HA.out _ _ _ none H0.out (grown_of_below HB2.out) (fun r e => by cases e)⟩
    case round =>
      obtain ⟨k, hk, rfl, hJs⟩ := hrel
      have HJ := Lib.hid hJs
      clear hJs
      by_cases hlt : k < c
      · gi_wp2_with fail
        refine ⟨trivial, ?_⟩
        refine (callsIn_wide.2 (first_any n l s k _ hs2 hs3 (by omega))).mono ?_
        rintro e w3 ⟨rfl, hb3⟩
        have HJ3 := Lib.hid (HA.out _ _ _ none HJ.out (grown_of_below hb3) (fun r e => by cases e))
        clear hb3
        obtain ⟨fn, tmps, assign, body, hy, hR⟩ := HY.out _ k w3 HJ3.out (by simpa using hlt)
        gi_wp2
        refine hR.mono ?_
        rintro e W3 (⟨rfl, hJ3, hk3⟩ | ⟨rfl, hJx3⟩)
        · rw [← List.range_succ] at hJ3
          have HJ4 := Lib.hid hJ3
          clear hJ3
          gi_wp2
          go_roundw
          case rel => exact ⟨k + 1, by omega, by simp, HJ4.out⟩
          case measure => simp [intOf]; omega
        · rw [← List.range_succ] at hJx3
          have HJ4 := Lib.hid hJx3
          clear hJx3
          gi_wp2
          simp only [Exit.noGoto]
          go_end0
          refine ⟨⟨_, rfl⟩, .inr ⟨_, ?_, HJ4.out⟩⟩
          rw [show c = (k + 1) + (c - (k + 1)) by omega, List.range_add]
          exact List.prefix_append _ _
      · obtain rfl : k = c := by omega
        gi_wp2
        simp only [Exit.noGoto]
        go_end0
        exact ⟨⟨_, rfl⟩, .inl ⟨_, rfl, HJ.out⟩⟩
end Go.Proofs.Ythlkahpglabnbaa
