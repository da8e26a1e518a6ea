/-
  PROVED: The contracts of owner's Check and Better and of the reference's Better; the walk of the law OwnerGuesses. CONDITIONS: none.
-/
import Derived.Test.YtoanpfbdhkgncaaR
import Derived.RangeFuncNested
namespace Go.Proofs.Ytoanpfbdhkgncaa
open Go.RowKit
attribute [local go_sem] Oper.semAt_some
set_option maxRecDepth 100000
set_option maxHeartbeats 4000000
/-- The better guess. -/
def better (a b : Ow) : Ow := if a.hop < b.hop then b else a
theorem step_any (a b : Ow) (w : World) : Calls Try.prog 34 #[a.val, b.val] w fun e w' => e = .returned (better a b).val ∧ Below w.heap.size w w' := by
  obtain ⟨k, h⟩ := a
  obtain ⟨k', h'⟩ := b
  unfold better
  simp only [Ow.val]
  by_cases g : h < h'
  · rw [if_pos g]
    go_enter Try.func34, Try.ntmps34
    go_wp2
    exact bodyPost_ret (v := .agg #[.int .i64 k', .int .i64 h']) (by simp [results, Try.results34, go_sem]) rfl ⟨rfl, ((below_new _).alloc (by simp) _).alloc (by simp; omega) _⟩
  · rw [if_neg g]
    go_enter Try.func34, Try.ntmps34
    go_wp2
    exact bodyPost_ret (v := .agg #[.int .i64 k, .int .i64 h]) (by simp [results, Try.results34, go_sem]) rfl ⟨rfl, ((below_new _).alloc (by simp) _).alloc (by simp; omega) _⟩
theorem refBetter_any (a b : Ow) (w : World) : Calls Try.prog 21 #[a.val, b.val] w fun e w' => e = .returned (better a b).val ∧ Below w.heap.size w w' := by
  obtain ⟨k, h⟩ := a
  obtain ⟨k', h'⟩ := b
  unfold better
  simp only [Ow.val]
  by_cases g : h < h'
  · rw [if_pos g]
    go_enter Try.func21, Try.ntmps21
    go_wp2
    exact bodyPost_ret (v := .agg #[.int .i64 k', .int .i64 h']) (by simp [results, Try.results21, go_sem]) rfl ⟨rfl, ((below_new _).alloc (by simp) _).alloc (by simp; omega) _⟩
  · rw [if_neg g]
    go_enter Try.func21, Try.ntmps21
    go_wp2
    exact bodyPost_ret (v := .agg #[.int .i64 k, .int .i64 h]) (by simp [results, Try.results21, go_sem]) rfl ⟨rfl, ((below_new _).alloc (by simp) _).alloc (by simp; omega) _⟩
theorem checkO_any (n l s : Int) (x : Ow) (w : World) : Calls Try.prog 18 #[shapeV n l s, x.val] w fun e w' => e = .returned (.int .i64 (if ownOk n l s x then 0 else 2)) ∧ Below w.heap.size w w' := by
  have HA := Lib.hid (right_own n l s x)
  obtain ⟨k, h⟩ := x
  simp only [Ow.val, shapeV] at *
  cases ho : ownOk n l s ⟨k, h⟩
  all_goals
    rw [ho] at HA
    clear ho
    go_enter Try.func18, Try.ntmps18
    go_wp2_with fail
    refine (HA.out _).mono ?_
    rintro e w1 ⟨rfl, hb⟩
    have HBz := Lib.hid (((below_new _).alloc (by simp) _).trans (hb.mono (by simp; omega)))
    clear hb
    go_wp2
    go_ret
    exact ⟨rfl, HBz.out⟩
theorem values_any (a : Option Addr) (len cap : Nat) (w : World) : Calls Try.prog 44 #[.slice a len cap] w fun e w' => e = .returned (.func (.func 48) #[] #[.pointer (some ⟨w.heap.size, 0, none⟩)]) ∧ w' = w.alloc (.cells #[.slice a len cap] 44) := by
  go_enter Try.func44, Try.ntmps44
  go_wp2
  go_ret
  exact ⟨rfl, rfl⟩
/-- slices.Values over guesses: all of them, in order; or a part. -/
theorem values_in (m : Nat) (hm : 1 ≤ m) (y Sb : Nat) (Bx : Nat → Prop) (v : Value) (xs : List Ow) (J Jx : List Ow → World → Prop) (w0 W : World) (hb0 : KeepsBut Bx w0 W) (hA : AbidesFrom W.heap.size J)
    (hSb : ¬ Bx Sb) (hS : w0.heap[Sb]? = some (.cells #[v] 44)) (hL : ∀ W', KeepsBut Bx w0 W' → Owns W' v xs)
    (hY : ∀ pre (o : Ow) W1, J pre W1 → pre.length < xs.length → YieldAt Fence.wide (m - 1) Try.prog y #[.agg #[.int .i64 o.node, .int .i64 o.hop]] W1 fun e W' =>
      (e = .returned (.bool true) ∧ J (pre ++ [o]) W' ∧ KeepsBut Bx W1 W') ∨ (e = .returned (.bool false) ∧ Jx (pre ++ [o]) W'))
    (h0 : J [] W) :
    CallsIn Fence.wide m Try.prog 48 #[.func (.yield y) #[] #[], .pointer (some ⟨Sb, 0, none⟩)] W fun e W' => (∃ v, e = .returned v) ∧
      ((∃ ys, ys = xs ∧ J ys W') ∨ (∃ pre, pre <+: xs ∧ Jx pre W')) := by
  have HL := Lib.hid hL
  have HA := Lib.hid hA
  have HY := Lib.hid hY
  have H0 := Lib.hid h0
  have HB0 := Lib.hid hb0
  obtain ⟨ao, cp, rfl, hlen, -⟩ := hL _ hb0
  have s0 : W.cell? ⟨Sb, 0, none⟩ = some (.slice ao xs.length cp) := cell_of (hb0.2 _ _ hSb hS rfl) 0
  clear hL hA hY h0 hb0
  refine callsIn_of_wp Try.func48 rfl trivial ?_ rfl
  simp only [Try.ntmps48, List.size_toArray, List.length_cons, List.length_nil, Nat.reduceAdd, Nat.reduceSub, Array.replicate_succ, Array.replicate_zero, List.push_toArray, List.append_toArray, List.nil_append, List.cons_append]
  gi_wp2
  gi_loopw [7] (fun i wr => ∃ k : Nat, k ≤ xs.length ∧ i = .int .i64 k ∧ Hid (J (xs.take k) wr) ∧ Hid (KeepsBut Bx W wr)) (fun i _ => xs.length - (intOf i).toNat)
  case atStart => exact ⟨0, Nat.zero_le _, rfl, H0, KeepsBut.refl _ _⟩
  case round =>
    obtain ⟨k, hk, rfl, hJ, hK⟩ := hrel
    by_cases hlt : k < xs.length
    · obtain ⟨ao2, cp2, e2, -, hc⟩ := HL.out _ (HB0.out.trans hK.out)
      cases e2
      obtain ⟨b, off, rfl, hc2⟩ := hc (by omega)
      obtain ⟨d0, d1⟩ := hc2 k hlt
      have HT : Hid (xs.take (k + 1) = xs.take k ++ [xs[k]]) := List.take_succ_eq_append_getElem hlt
      generalize hx : xs[k] = x at d0 d1 HT
      have hJn := HA.out _ _ _ none hJ.out (grown_of_below (below_new (w := wr) (.cells #[.int .i64 x.node, .int .i64 x.hop] 25))) (fun r e => by cases e)
      have HKn := Lib.hid (hK.out.trans (keepsBut_below (below_new (w := wr) (.cells #[.int .i64 x.node, .int .i64 x.hop] 25))))
      obtain ⟨fn, tmps, assign, body, hy, hR⟩ := HY.out (xs.take k) x _ hJn (by rw [List.length_take]; omega)
      clear hc hc2 hx hJn
      gi_wp2
      refine hR.mono ?_
      rintro e W3 (⟨rfl, hJ3, hk3⟩ | ⟨rfl, hJx3⟩)
      · rw [← HT.out] at hJ3
        have HJ3 := Lib.hid hJ3
        have HK3 := Lib.hid (HKn.out.trans hk3)
        clear hJ3 hk3
        gi_wp2
        go_roundw
        case rel => exact ⟨k + 1, by omega, by simp, HJ3, HK3⟩
        case measure => simp [intOf]; omega
      · rw [← HT.out] at hJx3
        have HJ3 := Lib.hid hJx3
        clear hJx3
        gi_wp2
        refine bodyPost_ret (results_none rfl _ _ _) rfl ?_
        exact ⟨⟨_, rfl⟩, .inr ⟨_, List.take_prefix _ _, HJ3.out⟩⟩
    · obtain rfl : k = xs.length := by omega
      gi_wp2
      go_end0
      exact ⟨⟨_, rfl⟩, .inl ⟨_, List.take_length, hJ.out⟩⟩
theorem folded_any (a b : Ow) (g : Nat) (w : World) (hg : w.heap[g]? = some (.cells #[.int .i64 b.node, .int .i64 b.hop] 25)) :
    Calls Try.prog 33 #[a.val, .slice (some ⟨g, 0, none⟩) 1 1, .func (.func 34) #[] #[]] w fun e w' => e = .returned (better a b).val ∧ Below w.heap.size w w' := by
  have HST := Lib.hid step_any
  have HVA := Lib.hid values_any
  have HG := Lib.hid hg
  have hgl := heap_lt hg
  clear hg
  simp only [Ow.val] at *
  refine (callsIn_wide (n := 3)).1 ?_
  refine callsIn_of_wp_marks Try.func33 rfl trivial ?_ rfl
  simp only [Try.ntmps33, List.size_toArray, List.length_cons, List.length_nil, Nat.reduceAdd, Nat.reduceSub, Array.replicate_succ, Array.replicate_zero, List.push_toArray, List.append_toArray, List.nil_append, List.cons_append]
  gi_wp2_with fail
  refine ⟨trivial, ?_⟩
  refine (callsIn_wide.2 (HVA.out _ _ _ _)).mono ?_
  rintro e w1 ⟨rfl, rfl⟩
  gi_wp2_with fail
  have B0 : Hid ((((((w.alloc (.cells #[.int .i64 a.node, .int .i64 a.hop] 25)).alloc (.cells #[.func (.func 34) #[] #[]] 60)).alloc (.cells #[.int .i64 0, .int .i64 0] 25))).alloc (.cells #[.slice (some ⟨g, 0, none⟩) 1 1] 44)).heap[w.heap.size]? = _) := heap_old (heap_old (heap_old (heap_new rfl)))
  have B1 : Hid ((((((w.alloc (.cells #[.int .i64 a.node, .int .i64 a.hop] 25)).alloc (.cells #[.func (.func 34) #[] #[]] 60)).alloc (.cells #[.int .i64 0, .int .i64 0] 25))).alloc (.cells #[.slice (some ⟨g, 0, none⟩) 1 1] 44)).heap[w.heap.size + 1]? = _) := heap_old (heap_old (heap_new (by simp)))
  have B2 : Hid ((((((w.alloc (.cells #[.int .i64 a.node, .int .i64 a.hop] 25)).alloc (.cells #[.func (.func 34) #[] #[]] 60)).alloc (.cells #[.int .i64 0, .int .i64 0] 25))).alloc (.cells #[.slice (some ⟨g, 0, none⟩) 1 1] 44)).heap[w.heap.size + 1 + 1]? = _) := heap_old (heap_new (by simp))
  have B3 : Hid ((((((w.alloc (.cells #[.int .i64 a.node, .int .i64 a.hop] 25)).alloc (.cells #[.func (.func 34) #[] #[]] 60)).alloc (.cells #[.int .i64 0, .int .i64 0] 25))).alloc (.cells #[.slice (some ⟨g, 0, none⟩) 1 1] 44)).heap[w.heap.size + 1 + 1 + 1]? = _) := heap_new (by simp)
  have HGW : Hid ((((((w.alloc (.cells #[.int .i64 a.node, .int .i64 a.hop] 25)).alloc (.cells #[.func (.func 34) #[] #[]] 60)).alloc (.cells #[.int .i64 0, .int .i64 0] 25))).alloc (.cells #[.slice (some ⟨g, 0, none⟩) 1 1] 44)).heap[g]? = _) := heap_old (heap_old (heap_old (heap_old HG.out)))
  have HBW : Hid (Below w.heap.size w (((((w.alloc (.cells #[.int .i64 a.node, .int .i64 a.hop] 25)).alloc (.cells #[.func (.func 34) #[] #[]] 60)).alloc (.cells #[.int .i64 0, .int .i64 0] 25))).alloc (.cells #[.slice (some ⟨g, 0, none⟩) 1 1] 44))) := (((below_new _).alloc (by simp) _).alloc (by simp; omega) _).alloc (by simp; omega) _
  obtain ⟨W0, hW0⟩ : ∃ W0, (((((w.alloc (.cells #[.int .i64 a.node, .int .i64 a.hop] 25)).alloc (.cells #[.func (.func 34) #[] #[]] 60)).alloc (.cells #[.int .i64 0, .int .i64 0] 25))).alloc (.cells #[.slice (some ⟨g, 0, none⟩) 1 1] 44)) = W0 := ⟨_, rfl⟩
  have hsz : W0.heap.size = w.heap.size + 1 + 1 + 1 + 1 := by rw [← hW0]; simp
  rw [hW0] at B0 B1 B2 B3 HGW HBW ⊢
  have HOWN : OwnFrom W0.heap.size (fun (pre : List Ow) (W : World) => ((W.heap[w.heap.size]? = some (.cells #[.int .i64 (pre.foldl better a).node, .int .i64 (pre.foldl better a).hop] 25) ∧ W.heap[w.heap.size + 1]? = some (.cells #[.func (.func 34) #[] #[]] 60)) ∧ W.heap[w.heap.size + 1 + 1]? = some (.cells #[.int .i64 0, .int .i64 0] 25)) ∧ (Below w.heap.size w W ∧ W0.heap.size ≤ W.heap.size)) :=
    OwnFrom.and (OwnFrom.and (OwnFrom.and (Own.from (heap_own w.heap.size (fun pre : List Ow => .cells #[.int .i64 (pre.foldl better a).node, .int .i64 (pre.foldl better a).hop] 25) (fun _ => rfl)) _) (Own.from (heap_own (w.heap.size + 1) (fun _ : List Ow => .cells #[.func (.func 34) #[] #[]] 60) (fun _ => rfl)) _)) (Own.from (heap_own (w.heap.size + 1 + 1) (fun _ : List Ow => .cells #[.int .i64 0, .int .i64 0] 25) (fun _ => rfl)) _)) (OwnFrom.and (ownFrom_below (Nat.le_refl _) (by omega)) (fun _ _ _ _ hs hg _ => Nat.le_trans hs hg.size))
  refine wpIn_rangeFunc_ownH rfl (by omega) (gf := 48) (lb := #[.pointer (some ⟨w.heap.size + 1 + 1 + 1, 0, none⟩)]) rfl trivial (enters_of Try.func48 (by kernel_rfl) rfl)
    (encs := fun o : Ow => #[.agg #[.int .i64 o.node, .int .i64 o.hop]]) (Kp := KeepsBut (fun k => k = w.heap.size)) (S := fun xs => xs = [b]) (Sp := fun pre => pre <+: [b]) (N := 1) (w0 := W0) ?seq
    (fun h k => h.trans k) (fun W l o o' _ h h1 _ => keepsBut_b W l o o' h h1) (Below.refl _ _) (fun _ => rfl)
    (fun pre W => ((W.heap[w.heap.size]? = some (.cells #[.int .i64 (pre.foldl better a).node, .int .i64 (pre.foldl better a).hop] 25) ∧ W.heap[w.heap.size + 1]? = some (.cells #[.func (.func 34) #[] #[]] 60)) ∧ W.heap[w.heap.size + 1 + 1]? = some (.cells #[.int .i64 0, .int .i64 0] 25)) ∧ (Below w.heap.size w W ∧ W0.heap.size ≤ W.heap.size))
    (fun _ _ _ => False) HOWN (fun _ _ _ _ _ hs _ _ => hs) ⟨⟨⟨B0.out, B1.out⟩, B2.out⟩, HBW.out, Nat.le_refl _⟩
    (fun x a' W => ∃ q, w.heap.size + 1 + 1 + 1 + 1 ≤ q ∧ W.heap[q]? = some (.cells #[.int .i64 x.node, .int .i64 x.hop] 25) ∧ a' = { tmps := #[.agg #[.int .i64 a.node, .int .i64 a.hop], .slice (some ⟨g, 0, none⟩) 1 1, .func (.func 34) #[] #[], .pointer (some ⟨w.heap.size, 0, none⟩), undef, .pointer (some ⟨w.heap.size + 1, 0, none⟩), .pointer (some ⟨w.heap.size + 1 + 1, 0, none⟩), .pointer (some ⟨q, 0, none⟩), .slice (some ⟨g, 0, none⟩) 1 1, .func (.func 48) #[] #[.pointer (some ⟨w.heap.size + 1 + 1 + 1, 0, none⟩)], .agg #[.int .i64 x.node, .int .i64 x.hop], undef, undef, undef, undef, undef], defers := [] })
    (fun x a' s X Y row hs hg hr => by
      obtain ⟨q, h1, h2, h3⟩ := hs
      refine ⟨q, h1, (hg.block q (heap_lt h2) (fun e => ?_)).trans h2, h3⟩
      obtain ⟨_, o, ho, hc⟩ := hr q e.symm
      rw [h2] at ho; cases ho; cases hc)
    ?assign ?body ?done ?stop
  case seq =>
    intro y J Jx W hW hA _ hY h0
    refine (values_in _ (by omega) y (w.heap.size + 1 + 1 + 1) (fun k => k = w.heap.size) (.slice (some ⟨g, 0, none⟩) 1 1) [b] J Jx W0 W (keepsBut_below hW) hA (by omega) B3.out (fun W' hK => owns_one (hK.2 g _ (by omega) HGW.out rfl)) hY h0).mono ?_
    rintro e W' ⟨h1, ⟨ys, rfl, h2⟩ | ⟨pre, h2, h3⟩⟩
    · exact ⟨h1, .inl ⟨_, rfl, h2⟩⟩
    · exact ⟨h1, .inr ⟨pre, h2, h3⟩⟩
  case assign =>
    rintro l pre x W K ⟨⟨⟨h1, h2⟩, h3⟩, hB, hW0s⟩ hK
    have hs := hB.size
    have H1 := Lib.hid h1
    have H2 := Lib.hid h2
    have H3 := Lib.hid h3
    have HB := Lib.hid hB
    clear h1 h2 h3 hB
    gi_wp2
    exact hK _ _ ((KeepsOthers.alloc _ _).from _) (keepsBut_below (below_new _)) ⟨⟨⟨heap_old H1.out, heap_old H2.out⟩, heap_old H3.out⟩, HB.out.alloc hs _, by simp; omega⟩ ⟨W.heap.size, by omega, heap_new rfl, rfl⟩
  case body =>
    rintro l pre x a' W hl hr ⟨⟨⟨h1, h2⟩, h3⟩, hB, hW0s⟩ ⟨q, hq, hx, rfl⟩ hlt
    have H1 := Lib.hid h1
    have H2 := Lib.hid h2
    have H3 := Lib.hid h3
    have HB := Lib.hid hB
    have c0 : W.cell? ⟨w.heap.size, 0, none⟩ = some (.int .i64 (pre.foldl better a).node) := cell_of h1 0
    have c1 : W.cell? ⟨w.heap.size, 1, none⟩ = some (.int .i64 (pre.foldl better a).hop) := cell_of h1 1
    have c2 : W.cell? ⟨w.heap.size + 1, 0, none⟩ = some (.func (.func 34) #[] #[]) := cell_of h2 0
    have x0 : W.cell? ⟨q, 0, none⟩ = some (.int .i64 x.node) := cell_of hx 0
    have x1 : W.cell? ⟨q, 1, none⟩ = some (.int .i64 x.hop) := cell_of hx 1
    have HF : Hid ((pre ++ [x]).foldl better a = better (pre.foldl better a) x) := Lib.hid (by simp)
    clear h1 h2 h3 hB hx hr
    generalize pre.foldl better a = f at *
    gi_wp2_with fail
    refine ⟨trivial, ?_⟩
    refine (CallsIn.inRound l (callsIn_wide.2 (HST.out f x _))).mono ?_
    rintro e W3 ⟨rfl, hb⟩
    have H1 := Lib.hid (heap_call hb H1.out)
    have H2 := Lib.hid (heap_call hb H2.out)
    have H3 := Lib.hid (heap_call hb H3.out)
    have hs3 := hb.size
    have HB3 := Lib.hid (HB.out.trans (hb.mono HB.out.size))
    have HKO := Lib.hid (KeepsOthers.of_grownBy (grown_of_below hb) (fun j o e _ => by cases e))
    have HKB := Lib.hid (keepsBut_below (Bx := fun k => k = w.heap.size) hb)
    have e0 : W3.cell? ⟨w.heap.size, 0, none⟩ = some (.int .i64 f.node) := cell_of H1.out 0
    have e1 : W3.cell? ⟨w.heap.size, 1, none⟩ = some (.int .i64 f.hop) := cell_of H1.out 1
    have f0 := free_of H1.out 0
    have f1 := free_of H1.out 1
    clear hb c0 c1 c2 x0 x1
    gi_wp2
    refine ⟨((HKO.out.trans (KeepsOthers.setCell _ _ _)).trans (KeepsOthers.setCell _ _ _)).from _, (HKB.out.trans (keepsBut_set (Bx := fun k => k = w.heap.size) rfl _ _)).trans (keepsBut_set (Bx := fun k => k = w.heap.size) rfl _ _), ⟨⟨⟨?_, (Below.heap_setCell _ _ _ _ (by show w.heap.size + 1 ≠ w.heap.size; omega)).trans ((Below.heap_setCell _ _ _ _ (by show w.heap.size + 1 ≠ w.heap.size; omega)).trans H2.out)⟩, (Below.heap_setCell _ _ _ _ (by show w.heap.size + 1 + 1 ≠ w.heap.size; omega)).trans ((Below.heap_setCell _ _ _ _ (by show w.heap.size + 1 + 1 ≠ w.heap.size; omega)).trans H3.out)⟩, (HB3.out.setCell (Nat.le_refl _) _).setCell (Nat.le_refl _) _, ?_⟩⟩
    · rw [HF.out]
      exact heap_set (heap_set H1.out)
    · have h1 := (KeepsWalks.setCell W3 ⟨w.heap.size, 0, none⟩ (.int .i64 (better f x).node)).size
      have h2 := (KeepsWalks.setCell (W3.setCell ⟨w.heap.size, 0, none⟩ (.int .i64 (better f x).node)) ⟨w.heap.size, 1, none⟩ (.int .i64 (better f x).hop)).size
      omega
  case done =>
    rintro D ys W hD rfl ⟨⟨⟨h1, h2⟩, h3⟩, hB, hW0s⟩ hD0
    have HB := Lib.hid hB
    have H3 := Lib.hid h3
    have HD := Lib.hid hD0
    have hDn : D ≠ w.heap.size + 1 + 1 := by omega
    have hDw : w.heap.size ≤ D := by omega
    have c0 : W.cell? ⟨w.heap.size, 0, none⟩ = some (.int .i64 (better a b).node) := cell_of h1 0
    have c1 : W.cell? ⟨w.heap.size, 1, none⟩ = some (.int .i64 (better a b).hop) := cell_of h1 1
    have r0 : W.cell? ⟨w.heap.size + 1 + 1, 0, none⟩ = some (.int .i64 0) := cell_of h3 0
    have r1 : W.cell? ⟨w.heap.size + 1 + 1, 1, none⟩ = some (.int .i64 0) := cell_of h3 1
    have f0 := free_of h3 0
    have f1 := free_of h3 1
    clear h1 h2 h3 hB hD0
    generalize hf : better a b = f at c0 c1
    have HFF := Lib.hid hf
    clear hf
    gi_wp2
    have HR0 := heap_set (i := 1) (v := .int .i64 f.hop) (heap_set (i := 0) (v := .int .i64 f.node) H3.out)
    have HD2 := (Below.heap_setCell (W.setCell ⟨w.heap.size + 1 + 1, 0, none⟩ (.int .i64 f.node)) ⟨w.heap.size + 1 + 1, 1, none⟩ (.int .i64 f.hop) D hDn).trans ((Below.heap_setCell W ⟨w.heap.size + 1 + 1, 0, none⟩ (.int .i64 f.node) D hDn).trans HD.out)
    refine ⟨by simp, .inl ⟨_, _, rfl, run_takeDeferred HD2, ?_⟩⟩
    refine ⟨.agg #[.int .i64 f.node, .int .i64 f.hop], ?_, by rw [HFF.out], ((HB.out.setCell (by show w.heap.size ≤ w.heap.size + 1 + 1; omega) _).setCell (by show w.heap.size ≤ w.heap.size + 1 + 1; omega) _).trans (belowK_b (w := w) (Nat.le_refl _) _ D _ _ hDw HD2 rfl rfl)⟩
    have HR1 := (World.putObj_heap_other (o := .deferred none) (fun e => hDn e.symm)).trans HR0
    have hcR := cell_of HR1 0
    have hcR1 := cell_of HR1 1
    simp [results, Try.results33, go_sem, hcR, hcR1]
  case stop =>
    rintro D c pre W _ _ h _
    exact h.elim
theorem better_any (a b : Ow) (w : World) : Calls Try.prog 20 #[a.val, b.val] w fun e w' => e = .returned (better a b).val ∧ Below w.heap.size w w' := by
  have HF := Lib.hid (fun g w h => folded_any a b g w h)
  simp only [Ow.val] at *
  generalize better a b = f at *
  go_enter Try.func20, Try.ntmps20
  go_wp2_with fail
  refine (HF.out _ _ (heap_new (by simp))).mono ?_
  rintro e w1 ⟨rfl, hb⟩
  have BX : Hid (w1.heap[w.heap.size + 1 + 1]? = some (.cells #[.int .i64 0, .int .i64 0] 25)) := heap_call hb (heap_old (heap_new (by simp)))
  have HB1 := Lib.hid (((((below_new _).alloc (by simp) _).alloc (by simp; omega) _).alloc (by simp; omega) _).trans (hb.mono (by simp; omega)))
  have c0 : w1.cell? ⟨w.heap.size + 1 + 1, 0, none⟩ = some (.int .i64 0) := cell_of BX.out 0
  have c1 : w1.cell? ⟨w.heap.size + 1 + 1, 1, none⟩ = some (.int .i64 0) := cell_of BX.out 1
  have f0 := free_of BX.out 0
  have f1 := free_of BX.out 1
  clear hb
  go_wp2
  exact bodyPost_ret (v := .agg #[.int .i64 f.node, .int .i64 f.hop]) (by simp [results, Try.results20, go_sem, c0, c1]) rfl ⟨rfl, (HB1.out.setCell (by show w.heap.size ≤ w.heap.size + 1 + 1; omega) _).setCell (by show w.heap.size ≤ w.heap.size + 1 + 1; omega) _⟩
end Go.Proofs.Ytoanpfbdhkgncaa
