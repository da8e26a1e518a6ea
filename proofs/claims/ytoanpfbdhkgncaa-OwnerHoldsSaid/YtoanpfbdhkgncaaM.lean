/-
  PROVED: The chapter's rows hold: the law's works. CONDITIONS: none.
-/
import Derived.Test.YtoanpfbdhkgncaaL
import Derived.Laws.StructEq
import Derived.RangeFuncNested
namespace Go.Proofs.Ytoanpfbdhkgncaa
open Go.RowKit
attribute [local go_sem] Oper.semAt_some
set_option maxRecDepth 100000
set_option maxHeartbeats 2000000
theorem own_eql (a b c d : Int) : ∀ W, (binOp .eql 25 (.agg #[.int .i64 a, .int .i64 b]) (.agg #[.int .i64 c, .int .i64 d])).run Try.prog W = .ok (.bool (a == c && b == d)) W := by
  intro W
  by_cases h1 : a = c
  · by_cases h2 : b = d
    · simp [go_sem, h1, h2]
    · simp [go_sem, h1, h2]
  · simp [go_sem, h1]
theorem own_neq (a b c d : Int) : ∀ W, (binOp .neq 25 (.agg #[.int .i64 a, .int .i64 b]) (.agg #[.int .i64 c, .int .i64 d])).run Try.prog W = .ok (.bool (!(a == c && b == d))) W := by
  intro W
  by_cases h1 : a = c
  · by_cases h2 : b = d
    · simp [go_sem, h1, h2]
    · simp [go_sem, h1, h2]
  · simp [go_sem, h1]
theorem func_nil (lb : Array Value) : ∀ W, (binOp .eql 52 (.func (.func 32) #[] lb) .nilFunc).run Try.prog W = .ok (.bool false) W := fun W => by kernel_rfl
theorem num_any (k : Int) (w : World) : Calls Try.prog 11 #[.int .i64 k] w fun e w' => e = .returned (.int .i64 k) ∧ w' = w := by
  go_enter Try.func11, Try.ntmps11
  go_wp2
  go_ret
  exact ⟨rfl, rfl⟩
theorem shape_any (w : World) : Calls Try.prog 28 #[] w fun e w' => e = .returned (shapeV 4 1 1) ∧ Below w.heap.size w w' := by
  go_enter Try.func28, Try.ntmps28
  go_wp2
  exact bodyPost_ret (v := shapeV 4 1 1) (by simp [results, Try.results28, go_sem, shapeV]) rfl ⟨rfl, below_new _⟩
def rowsL : List Ow := [⟨1, 3⟩, ⟨2, 5⟩, ⟨3, 6⟩, ⟨3, 6⟩]
def rowsW : List Ow := [⟨1, 3⟩, ⟨2, 5⟩, ⟨3, 6⟩]
theorem owns_rows {W : World} {b : Nat} (h : W.heap[b]? = some (.cells #[.int .i64 1, .int .i64 3, .int .i64 2, .int .i64 5, .int .i64 3, .int .i64 6, .int .i64 3, .int .i64 6] 25)) : Owns W (.slice (some ⟨b, 0, none⟩) 4 4) rowsL := by
  refine ⟨_, _, rfl, by decide, fun _ => ⟨b, 0, rfl, fun i hi => ?_⟩⟩
  have : i = 0 ∨ i = 1 ∨ i = 2 ∨ i = 3 := by simp [rowsL] at hi; omega
  rcases this with rfl | rfl | rfl | rfl <;> exact ⟨cell_of h _, cell_of h _⟩
theorem rows_way : wayR 4 1 1 rowsL ⟨false, ⟨0, 0⟩, 0, 0⟩ = rowsW := by decide
theorem rows_ends : endsR 4 1 1 rowsL ⟨false, ⟨0, 0⟩, 0, 0⟩ = (3, 0) := by decide
theorem rows_on : onR 4 1 1 1 ⟨false, ⟨2, 5⟩, 2, 0⟩ = (⟨0, 0⟩, false, 0) := by decide
theorem rows_first : firstR 4 1 1 1 ⟨1, 4⟩ false = ([0, 2, 3], 0) := by decide
theorem rows_pre {pre : List Ow} (h : pre <+: rowsW) (hl : pre.length < 3) : pre = [] ∨ pre = [⟨1, 3⟩] ∨ pre = [⟨1, 3⟩, ⟨2, 5⟩] := by
  have e : pre = rowsW.take pre.length := List.prefix_iff_eq_take.1 h
  generalize pre.length = k at *
  have : k = 0 ∨ k = 1 ∨ k = 2 := by omega
  rcases this with rfl | rfl | rfl
  · exact .inl e
  · exact .inr (.inl e)
  · exact .inr (.inr e)
theorem way_rows (w : World) (v : Value) (h : Owns w v rowsL) (hn : ∀ m c, v = .slice none m c → c = 0) :
    Calls Try.prog 17 #[.agg #[.int .i64 4, .int .i64 1, .int .i64 1], v, .agg #[.bool false, .int .i64 0, .int .i64 0, .int .i64 0, .int .i64 0]] w fun e w' => (∃ lb, e = .returned (.func (.func 32) #[] lb) ∧ WaySeq w' w.heap.size rowsW lb) ∧ Below w.heap.size w w' := by
  have := way_any 4 1 1 v rowsL ⟨false, ⟨0, 0⟩, 0, 0⟩ w h hn (by decide)
  rw [rows_way] at this
  exact this
theorem ends_rows (w : World) (v : Value) (h : Owns w v rowsL) (hn : ∀ m c, v = .slice none m c → c = 0) :
    Calls Try.prog 16 #[.agg #[.int .i64 4, .int .i64 1, .int .i64 1], v, .agg #[.bool false, .int .i64 0, .int .i64 0, .int .i64 0, .int .i64 0]] w fun e w' => e = .returned (.tuple #[.int .i64 3, .int .i64 0]) ∧ Below w.heap.size w w' := by
  have := ends_any 4 1 1 v rowsL ⟨false, ⟨0, 0⟩, 0, 0⟩ w h hn (by decide)
  rw [rows_ends] at this
  exact this
theorem on_rows (w : World) : Calls Try.prog 9 #[.agg #[.int .i64 4, .int .i64 1, .int .i64 1], .int .i64 1, .agg #[.bool false, .int .i64 2, .int .i64 5, .int .i64 2, .int .i64 0]] w fun e w' => e = .returned (.tuple #[.agg #[.int .i64 0, .int .i64 0], .bool false, .int .i64 0]) ∧ Below w.heap.size w w' := by
  have := on_any 4 1 1 1 ⟨false, ⟨2, 5⟩, 2, 0⟩ w
  rw [rows_on] at this
  exact this
theorem first_rows (w : World) : Calls Try.prog 13 #[.agg #[.int .i64 4, .int .i64 1, .int .i64 1], .int .i64 1, .agg #[.int .i64 1, .int .i64 4], .bool false] w fun e w' => (∃ v, e = .returned (.tuple #[v, .int .i64 0]) ∧ Ints w' v [0, 2, 3]) ∧ Below w.heap.size w w' := by
  have := first_any 4 1 1 1 ⟨1, 4⟩ false w
  rw [rows_first] at this
  exact this
theorem works_any (w : World) : Calls Try.prog 12 #[] w fun e w' => e = .returned (.bool true) ∧ Below w.heap.size w w' := by
  have HSH := Lib.hid shape_any
  have HW := Lib.hid way_rows
  have HE := Lib.hid ends_rows
  have HON := Lib.hid on_rows
  have HF := Lib.hid first_rows
  have HNU := Lib.hid num_any
  simp only [shapeV] at HSH
  refine (callsIn_wide (n := 3)).1 ?_
  refine callsIn_of_wp_marks Try.func12 rfl trivial ?_ rfl
  simp only [Try.ntmps12, List.size_toArray, List.length_nil, Nat.reduceSub, Array.replicate_succ, Array.replicate_zero, List.push_toArray, List.append_toArray, List.nil_append, List.cons_append]
  gi_wp2_with fail
  refine ⟨trivial, ?_⟩
  refine (callsIn_wide.2 (HSH.out _)).mono ?_
  rintro e w1 ⟨rfl, hb⟩
  have B0 : Hid (w1.heap[w.heap.size]? = some (.cells #[.bool false] 4)) := heap_call hb (heap_old (heap_old (heap_old (heap_new rfl))))
  have B1 : Hid (w1.heap[w.heap.size + 1]? = some (.cells #[.int .i64 1, .int .i64 3, .int .i64 2, .int .i64 5, .int .i64 3, .int .i64 6, .int .i64 3, .int .i64 6] 25)) := heap_call hb (heap_old (heap_old (heap_new (by simp))))
  have B2 : Hid (w1.heap[w.heap.size + 1 + 1]? = some (.cells #[.int .i64 1, .int .i64 3, .int .i64 2, .int .i64 5, .int .i64 3, .int .i64 6] 25)) := heap_call hb (heap_old (heap_new (by simp)))
  have B3 : Hid (w1.heap[w.heap.size + 1 + 1 + 1]? = some (.cells #[.slice (some ⟨w.heap.size + 1 + 1, 0, none⟩) 3 3] 44)) := heap_call hb (heap_new (by simp))
  have HB1 := Lib.hid (((((below_new _).alloc (by simp) _).alloc (by simp; omega) _).alloc (by simp; omega) _).trans (hb.mono (by simp; omega)))
  have hs1 := hb.size
  simp only [World.size_alloc] at hs1
  clear hb
  gi_wp2_with fail
  refine ⟨trivial, ?_⟩
  refine (callsIn_wide.2 (HW.out _ _ (owns_rows B1.out) (fun m c h => by cases h))).mono ?_
  rintro e w2 ⟨⟨lb, rfl, hseq⟩, hb⟩
  have B0 := Lib.hid (heap_call hb B0.out)
  have B1 := Lib.hid (heap_call hb B1.out)
  have B2 := Lib.hid (heap_call hb B2.out)
  have B3 := Lib.hid (heap_call hb B3.out)
  have HB2 := Lib.hid (HB1.out.trans (hb.mono HB1.out.size))
  have hs2 := hb.size
  have HSQ := Lib.hid hseq
  clear hb hseq HB1
  have FN := func_nil lb
  gi_wp2_with fail
  have HA : Hid ((w2.alloc (.cells #[.int .i64 0] 3)).heap[w2.heap.size]? = some (.cells #[.int .i64 ((([] : List Ow).length : Nat) : Int)] 3)) := heap_new rfl
  refine wpIn_rangeFunc_ownG rfl (by omega) (gf := 32) (lb := lb) rfl trivial (enters_of Try.func32 (by kernel_rfl) rfl)
    (HSQ.out (fun k => k = w2.heap.size ∨ k = w.heap.size) (w2.alloc (.cells #[.int .i64 0] 3)) _ (by omega) (by intro k h1 h2; omega) (by intro k hk; simp at hk; omega) (keepsBut_below (below_new _)))
    (fun h k => h.trans k) (fun W l o o' _ h h1 _ => keepsBut_b W l o o' h h1) (Below.refl _ _) (fun _ => rfl)
    (fun pre W => ((W.heap[w2.heap.size]? = some (.cells #[.int .i64 (pre.length : Int)] 3) ∧ W.heap[w.heap.size]? = some (.cells #[.bool false] 4)) ∧ Below w2.heap.size w2 W) ∧ pre <+: rowsW)
    (fun _ pre _ => ¬ pre <+: rowsW)
    (OwnFrom.and (OwnFrom.and (OwnFrom.and (Own.from (heap_own w2.heap.size (fun pre : List Ow => .cells #[.int .i64 (pre.length : Int)] 3) (fun _ => rfl)) _) (Own.from (heap_own w.heap.size (fun _ : List Ow => .cells #[.bool false] 4) (fun _ => rfl)) _)) (ownFrom_below (Nat.le_refl _) (by simp))) (ownFrom_pure _ _))
    (fun _ => ownFrom_pure _ _)
    ⟨⟨⟨HA.out, heap_old B0.out⟩, below_new _⟩, List.nil_prefix⟩
    (fun x => { tmps := #[.pointer (some ⟨w.heap.size, 0, none⟩), .slice (some ⟨w.heap.size + 1, 0, none⟩) 4 4, .pointer (some ⟨w.heap.size + 1 + 1 + 1, 0, none⟩), .func (.func 32) #[] lb, .pointer (some ⟨w2.heap.size, 0, none⟩), .int .i64 x.node, .int .i64 x.hop, undef, undef, undef, undef, undef, undef, undef, .agg #[.int .i64 1, .int .i64 3], .agg #[.int .i64 2, .int .i64 5], .agg #[.int .i64 3, .int .i64 6], .agg #[.int .i64 3, .int .i64 6], .slice (some ⟨w.heap.size + 1, 0, none⟩) 4 4, .agg #[.int .i64 1, .int .i64 3], .agg #[.int .i64 2, .int .i64 5], .agg #[.int .i64 3, .int .i64 6], .slice (some ⟨w.heap.size + 1 + 1, 0, none⟩) 3 3, .agg #[.int .i64 4, .int .i64 1, .int .i64 1], .slice (some ⟨w.heap.size + 1, 0, none⟩) 4 4, .agg #[.bool false, .int .i64 0, .int .i64 0, .int .i64 0, .int .i64 0], .func (.func 32) #[] lb, .func (.func 32) #[] lb, .bool false, .func (.func 32) #[] lb, .int .i64 x.node, .int .i64 x.hop, undef, undef, undef, undef, undef, undef, undef, undef, undef, undef, undef, undef, undef, undef, undef, undef, undef, undef, undef, undef, undef, undef, undef, undef, undef, undef, undef, undef, undef, undef, undef, undef, undef, undef, undef, undef, undef, undef, undef, undef, undef, undef, undef, undef, undef, undef, undef, undef, undef, undef, undef, undef, undef, undef, undef, undef, undef, undef, undef, undef, undef, undef, undef, undef, undef, undef, undef, undef, undef, undef, undef, undef, undef, undef, undef, undef, undef, undef, undef], defers := [] }) ?assign ?body ?done ?stop
  case assign =>
    intro l x W K hK
    gi_wp2
    exact hK
  case body =>
    rintro lx pre x W ⟨⟨⟨h1, h0⟩, hB⟩, hpre⟩ hlt
    have HB := Lib.hid hB
    have H1 := Lib.hid h1
    have H0 := Lib.hid h0
    have HP := Lib.hid hpre
    have C2 := Lib.hid (heap_call hB B2.out)
    have C3 := Lib.hid (heap_call hB B3.out)
    have c3 : W.cell? ⟨w.heap.size + 1 + 1 + 1, 0, none⟩ = some (.slice (some ⟨w.heap.size + 1 + 1, 0, none⟩) 3 3) := cell_of C3.out 0
    have f0 := free_of H0.out 0
    have f1 := free_of H1.out 0
    have c0 : W.cell? ⟨w.heap.size, 0, none⟩ = some (.bool false) := cell_of H0.out 0
    have hs2' := hB.size
    clear hB h1 h0 hpre
    obtain ⟨nd, hp⟩ := x
    rcases rows_pre HP.out hlt with rfl | rfl | rfl
    · have c1 : W.cell? ⟨w2.heap.size, 0, none⟩ = some (.int .i64 0) := cell_of H1.out 0
      have d0 : W.cell? ⟨w.heap.size + 1 + 1, 0, none⟩ = some (.int .i64 1) := cell_of C2.out 0
      have d1 : W.cell? ⟨w.heap.size + 1 + 1, 1, none⟩ = some (.int .i64 3) := cell_of C2.out 1
      by_cases hx : nd = 1 ∧ hp = 3
      · obtain ⟨rfl, rfl⟩ := hx
        gi_wp2
        refine ⟨(KeepsOthers.setCell _ _ _).from _, keepsBut_set (Bx := fun k => k = w2.heap.size ∨ k = w.heap.size) (.inl rfl) _ _, ⟨⟨⟨?_, (Below.heap_setCell _ _ _ _ (by show w.heap.size ≠ w2.heap.size; omega)).trans H0.out⟩, HB.out.setCell (Nat.le_refl _) _⟩, ?_⟩⟩
        · exact heap_set (i := 0) (v := .int .i64 1) H1.out
        · simp [rowsW]
      · have e1 : (((1 : Int) == nd) && ((3 : Int) == hp)) = false := by
          by_cases h1 : (1 : Int) = nd
          · have h2 : ¬ (3 : Int) = hp := fun h2 => hx ⟨h1.symm, h2.symm⟩
            simp [h2]
          · simp [h1]
        have hq : ∀ W, (binOp .neq 25 (.agg #[.int .i64 1, .int .i64 3]) (.agg #[.int .i64 nd, .int .i64 hp])).run Try.prog W = .ok (.bool true) W := by
          intro W; rw [own_neq, e1]; rfl
        have HX := Lib.hid hx
        clear hx e1
        gi_wp2
        refine ⟨(KeepsOthers.setCell _ _ _).from _, fun h => ?_⟩
        have h1 := List.prefix_iff_eq_take.1 h
        simp [rowsW] at h1
        exact HX.out (by omega)
    · have c1 : W.cell? ⟨w2.heap.size, 0, none⟩ = some (.int .i64 1) := cell_of H1.out 0
      have d0 : W.cell? ⟨w.heap.size + 1 + 1, 2, none⟩ = some (.int .i64 2) := cell_of C2.out 2
      have d1 : W.cell? ⟨w.heap.size + 1 + 1, 3, none⟩ = some (.int .i64 5) := cell_of C2.out 3
      by_cases hx : nd = 2 ∧ hp = 5
      · obtain ⟨rfl, rfl⟩ := hx
        gi_wp2
        refine ⟨(KeepsOthers.setCell _ _ _).from _, keepsBut_set (Bx := fun k => k = w2.heap.size ∨ k = w.heap.size) (.inl rfl) _ _, ⟨⟨⟨?_, (Below.heap_setCell _ _ _ _ (by show w.heap.size ≠ w2.heap.size; omega)).trans H0.out⟩, HB.out.setCell (Nat.le_refl _) _⟩, ?_⟩⟩
        · exact heap_set (i := 0) (v := .int .i64 2) H1.out
        · simp [rowsW]
      · have e1 : (((2 : Int) == nd) && ((5 : Int) == hp)) = false := by
          by_cases h1 : (2 : Int) = nd
          · have h2 : ¬ (5 : Int) = hp := fun h2 => hx ⟨h1.symm, h2.symm⟩
            simp [h2]
          · simp [h1]
        have hq : ∀ W, (binOp .neq 25 (.agg #[.int .i64 2, .int .i64 5]) (.agg #[.int .i64 nd, .int .i64 hp])).run Try.prog W = .ok (.bool true) W := by
          intro W; rw [own_neq, e1]; rfl
        have HX := Lib.hid hx
        clear hx e1
        gi_wp2
        refine ⟨(KeepsOthers.setCell _ _ _).from _, fun h => ?_⟩
        have h1 := List.prefix_iff_eq_take.1 h
        simp [rowsW] at h1
        exact HX.out (by omega)
    · have c1 : W.cell? ⟨w2.heap.size, 0, none⟩ = some (.int .i64 2) := cell_of H1.out 0
      have d0 : W.cell? ⟨w.heap.size + 1 + 1, 4, none⟩ = some (.int .i64 3) := cell_of C2.out 4
      have d1 : W.cell? ⟨w.heap.size + 1 + 1, 5, none⟩ = some (.int .i64 6) := cell_of C2.out 5
      by_cases hx : nd = 3 ∧ hp = 6
      · obtain ⟨rfl, rfl⟩ := hx
        gi_wp2
        refine ⟨(KeepsOthers.setCell _ _ _).from _, keepsBut_set (Bx := fun k => k = w2.heap.size ∨ k = w.heap.size) (.inl rfl) _ _, ⟨⟨⟨?_, (Below.heap_setCell _ _ _ _ (by show w.heap.size ≠ w2.heap.size; omega)).trans H0.out⟩, HB.out.setCell (Nat.le_refl _) _⟩, ?_⟩⟩
        · exact heap_set (i := 0) (v := .int .i64 3) H1.out
        · simp [rowsW]
      · have e1 : (((3 : Int) == nd) && ((6 : Int) == hp)) = false := by
          by_cases h1 : (3 : Int) = nd
          · have h2 : ¬ (6 : Int) = hp := fun h2 => hx ⟨h1.symm, h2.symm⟩
            simp [h2]
          · simp [h1]
        have hq : ∀ W, (binOp .neq 25 (.agg #[.int .i64 3, .int .i64 6]) (.agg #[.int .i64 nd, .int .i64 hp])).run Try.prog W = .ok (.bool true) W := by
          intro W; rw [own_neq, e1]; rfl
        have HX := Lib.hid hx
        clear hx e1
        gi_wp2
        refine ⟨(KeepsOthers.setCell _ _ _).from _, fun h => ?_⟩
        have h1 := List.prefix_iff_eq_take.1 h
        simp [rowsW] at h1
        exact HX.out (by omega)
  case done =>
    rintro D ys' W hD rfl ⟨⟨⟨h1, h0⟩, hB⟩, -⟩ hD0
    have H1 := Lib.hid h1
    have H0 := Lib.hid h0
    have C1 := Lib.hid (heap_call hB B1.out)
    have HBW := Lib.hid (HB2.out.trans (hB.mono HB2.out.size))
    have hDl := heap_lt hD0
    have HD := Lib.hid hD0
    have hDn : D ≠ w.heap.size := by simp at hD; omega
    have hsW := hB.size
    clear h1 h0 hB hD0
    gi_wp2_with fail
    refine ⟨trivial, ?_⟩
    refine (callsIn_wide.2 (HSH.out _)).mono ?_
    rintro e w3 ⟨rfl, hb⟩
    have H1 := Lib.hid (heap_call hb H1.out)
    have H0 := Lib.hid (heap_call hb H0.out)
    have HD := Lib.hid (heap_call hb HD.out)
    have HBW := Lib.hid (HBW.out.trans (hb.mono HBW.out.size))
    have C1 := Lib.hid (heap_call hb C1.out)
    clear hb
    gi_wp2_with fail
    refine ⟨trivial, ?_⟩
    refine (callsIn_wide.2 (HE.out _ _ (owns_rows C1.out) (fun m c h => by cases h))).mono ?_
    rintro e w4 ⟨rfl, hb⟩
    have H1 := Lib.hid (heap_call hb H1.out)
    have H0 := Lib.hid (heap_call hb H0.out)
    have HD := Lib.hid (heap_call hb HD.out)
    have HBW := Lib.hid (HBW.out.trans (hb.mono HBW.out.size))
    clear hb
    gi_wp2_with fail
    refine ⟨trivial, ?_⟩
    refine (callsIn_wide.2 (HSH.out _)).mono ?_
    rintro e w5 ⟨rfl, hb⟩
    have H1 := Lib.hid (heap_call hb H1.out)
    have H0 := Lib.hid (heap_call hb H0.out)
    have HD := Lib.hid (heap_call hb HD.out)
    have HBW := Lib.hid (HBW.out.trans (hb.mono HBW.out.size))
    clear hb
    gi_wp2_with fail
    refine ⟨trivial, ?_⟩
    refine (callsIn_wide.2 (HON.out _)).mono ?_
    rintro e w6 ⟨rfl, hb⟩
    have H1 := Lib.hid (heap_call hb H1.out)
    have H0 := Lib.hid (heap_call hb H0.out)
    have HD := Lib.hid (heap_call hb HD.out)
    have HBW := Lib.hid (HBW.out.trans (hb.mono HBW.out.size))
    clear hb
    gi_wp2_with fail
    refine ⟨trivial, ?_⟩
    refine (callsIn_wide.2 (HSH.out _)).mono ?_
    rintro e w7 ⟨rfl, hb⟩
    have H1 := Lib.hid (heap_call hb (heap_old H1.out))
    have H0 := Lib.hid (heap_call hb (heap_old H0.out))
    have HD := Lib.hid (heap_call hb (heap_old HD.out))
    have HBW := Lib.hid ((HBW.out.alloc HBW.out.size _).trans (hb.mono (by have := HBW.out.size; simp; omega)))
    clear hb
    gi_wp2_with fail
    refine ⟨trivial, ?_⟩
    refine (callsIn_wide.2 (HF.out _)).mono ?_
    rintro e w8 ⟨⟨vf, rfl, hI⟩, hb⟩
    have H1 := Lib.hid (heap_call hb H1.out)
    have H0 := Lib.hid (heap_call hb H0.out)
    have HD := Lib.hid (heap_call hb HD.out)
    have HBW := Lib.hid (HBW.out.trans (hb.mono HBW.out.size))
    obtain ⟨ao, cpp, rfl, -, hcc⟩ := hI
    obtain ⟨bb, oo, rfl, hc2⟩ := hcc (by decide)
    have i0 : w8.cell? ⟨bb, oo, none⟩ = some (.int .i64 0) := hc2 0 (by decide)
    have i1 : w8.cell? ⟨bb, oo + 1, none⟩ = some (.int .i64 2) := hc2 1 (by decide)
    have i2 : w8.cell? ⟨bb, oo + 2, none⟩ = some (.int .i64 3) := hc2 2 (by decide)
    have g0 : w8.cell? ⟨w2.heap.size, 0, none⟩ = some (.int .i64 3) := cell_of H1.out 0
    have r0 : w8.cell? ⟨w.heap.size, 0, none⟩ = some (.bool false) := cell_of H0.out 0
    have rf := free_of H0.out 0
    clear hb hcc hc2
    gi_wp2_with (first | (refine ⟨trivial, ?_⟩; refine (callsIn_wide.2 (HNU.out _ _)).mono ?_; rintro e w' ⟨rfl, rfl⟩) | fail)
    have HR0 := heap_set (i := 0) (v := .bool true) H0.out
    have HD2 := (Below.heap_setCell _ ⟨w.heap.size, 0, none⟩ (.bool true) D hDn).trans HD.out
    refine ⟨by simp, .inl ⟨_, _, rfl, run_takeDeferred HD2, ?_⟩⟩
    refine ⟨.bool true, ?_, rfl, (HBW.out.setCell (Nat.le_refl _) _).trans (belowK_b (w := w) (Nat.le_refl _) _ D _ _ (by simp at hD; omega) HD2 rfl rfl)⟩
    have HR1 := (World.putObj_heap_other (o := .deferred none) (fun e => hDn e.symm)).trans HR0
    have hcR := cell_of HR1 0
    simp [results, Try.results12, go_sem, hcR]
  case stop =>
    rintro D c pre W _ h1 h2 _
    exact absurd h1 h2
end Go.Proofs.Ytoanpfbdhkgncaa
