/-
  PROVED: The contracts of owner.First and of the reference's First. CONDITIONS: none.
-/
import Derived.Test.YtoanpfbdhkgncaaG
import Derived.Laws.AppendOwnNone
import Derived.Laws.OwnMore
import Derived.Maps.AppendAt
namespace Go.Proofs.Ytoanpfbdhkgncaa
open Go.RowKit
set_option maxRecDepth 100000
set_option maxHeartbeats 2000000
theorem Try.info3 : (Try.prog.info? 3).map (fun i => (i.zero, i.size, i.bytes)) = some (some (.int .i64 0), 1, 8) := by kernel_rfl
theorem info_parts {P : Program} {t : TypeId} {z : Option Value} {s b : Nat} (h : (P.info? t).map (fun i => (i.zero, i.size, i.bytes)) = some (z, s, b)) : ∃ i, P.info? t = some i ∧ i.zero = z ∧ i.size = s ∧ i.bytes = b := by
  cases hi : P.info? t with
  | none => rw [hi] at h; cases h
  | some i =>
    rw [hi] at h
    simp only [Option.map_some, Option.some.injEq, Prod.mk.injEq] at h
    exact ⟨i, rfl, h.1, h.2.1, h.2.2⟩
/-- All nodes but one. -/
def others (me : Int) : Nat → List Int
  | 0 => []
  | k + 1 => others me k ++ if (k : Int) = me then [] else [(k : Int)]
theorem others_len (me : Int) (k : Nat) : (others me k).length ≤ k := by
  induction k with
  | zero => simp [others]
  | succ k ih =>
    rw [others, List.length_append]
    split <;> simp <;> omega
/-- Where a node's own status goes; an error's number. -/
def firstR (n l s me : Int) (own : Ow) (all : Bool) : List Int × Int :=
  if ownOk n l s own && nodeOk n me then
    if !all && decide (own.node ≠ me) then ([own.node], 0) else (others me n.toNat, 0)
  else ([], 2)
def FirstPost (r : List Int × Int) (w : World) (e : Ending) (w' : World) : Prop :=
  (∃ v, e = .returned (.tuple #[v, .int .i64 r.2]) ∧ Ints w' v r.1) ∧ Below w.heap.size w w'
theorem ints_nil (w : World) : Ints w (.slice none 0 0) [] := ⟨none, 0, rfl, by simp, fun h => absurd h (by simp)⟩
theorem row_form3 {w : World} {B : Nat} {v : Value} {n : Nat} {xs : List Value} (h : w.ownsRow B 3 1 v n xs) : (∃ ao cp, v = .slice ao n cp ∧ n ≤ cp ∧ cp ≤ maxLen) ∧ (0 < n → ∃ g cp, v = .slice (some ⟨g, 0, none⟩) n cp) := by
  obtain ⟨h1, ⟨rfl, rfl⟩ | ⟨g, cap, cur, ha, h4, h5, h6, h7, h8, h9⟩⟩ := h
  · exact ⟨⟨none, 0, rfl, by omega, by unfold maxLen; omega⟩, fun h => by omega⟩
  · exact ⟨⟨_, cap, ha, h6, h7⟩, fun _ => ⟨g, cap, ha⟩⟩
theorem Ints.of_row {w : World} {B : Nat} {v : Value} {l : List Int} (h : w.ownsRow B 3 1 v l.length (l.map (Value.int .i64))) : Ints w v l := by
  obtain ⟨⟨ao, cp, rfl, hl, hm⟩, h0⟩ := row_form3 h
  refine ⟨ao, cp, rfl, by unfold maxLen at hm; omega, fun h1 => ?_⟩
  obtain ⟨g, cp', e⟩ := h0 h1
  cases e
  exact ⟨g, 0, rfl, fun i hi => by rw [Nat.zero_add]; exact (h.cellAt i (by omega)).trans (by simp [hi])⟩
theorem ownOk_shape {n l s : Int} {x : Ow} (h : ownOk n l s x = true) : shapeOk n l s = true := by
  simp [ownOk] at h; exact h.1.1
theorem shape_parts {n l s : Int} (h : shapeOk n l s = true) : 1 ≤ n ∧ n ≤ 64 ∧ 1 ≤ s ∧ s ≤ 4 := by
  simp [shapeOk] at h; omega
theorem there1_any (n l s a : Int) (v : Value) (w : World) (h : Ints w v [a]) :
    Calls Try.prog 23 #[shapeV n l s, v] w fun e w' => e = .returned (.bool (shapeOk n l s && nodeOk n a)) ∧ Below w.heap.size w w' := by
  refine (there_any n l s v [a] w h).mono ?_
  rintro e w' ⟨rfl, hb⟩
  exact ⟨by simp, hb⟩
theorem first_any (n l s me : Int) (x : Ow) (all : Bool) (w : World) : Calls Try.prog 13 #[shapeV n l s, .int .i64 me, x.val, .bool all] w (FirstPost (firstR n l s me x all) w) := by
  obtain ⟨i0, hi, hz0, hz1, hz2⟩ := info_parts Try.info3
  have HA := Lib.hid (right_own n l s x)
  have HB := Lib.hid (there1_any n l s me)
  generalize hr : firstR n l s me x all = r
  have HR0 := Lib.hid hr
  clear hr
  unfold firstR at HR0
  have HS : Hid (ownOk n l s x = true → shapeOk n l s = true) := ownOk_shape
  have HS2 : Hid (shapeOk n l s = true → 1 ≤ n ∧ n ≤ 64 ∧ 1 ≤ s ∧ s ≤ 4) := shape_parts
  obtain ⟨k, h⟩ := x
  simp only [Ow.val, shapeV] at *
  generalize ownOk n l s ⟨k, h⟩ = a at *
  generalize shapeOk n l s = sh at *
  generalize nodeOk n me = b at *
  cases a
  · have HR : Hid (r = ([], 2)) := Lib.hid (by have h0 := HR0.out.symm; simpa using h0)
    clear HR0 HS HS2
    go_enter Try.func13, Try.ntmps13
    go_wp2_with fail
    refine (HA.out _).mono ?_
    rintro e w1 ⟨rfl, hb⟩
    have P := Lib.hid (heap_call hb (heap_old (heap_new (W := w) rfl)))
    have Q : Hid (w1.heap[w.heap.size + 1]? = some (.cells #[.int .i64 k, .int .i64 h] 25)) := heap_call hb (heap_new (by simp))
    have HBz := Lib.hid (((below_new _).alloc (by simp) _).trans (hb.mono (by simp; omega)))
    clear hb
    go_wp2
    go_ret2
    rw [HR.out]
    exact ⟨⟨_, rfl, ints_nil _⟩, HBz.out⟩
  obtain rfl := HS.out rfl
  obtain ⟨hn0, hn1, -, -⟩ := HS2.out rfl
  clear HS HS2
  rw [Bool.true_and] at HB
  cases b
  · have HR : Hid (r = ([], 2)) := Lib.hid (by have h0 := HR0.out.symm; simpa using h0)
    clear HR0
    go_enter Try.func13, Try.ntmps13
    go_wp2_with fail
    refine (HA.out _).mono ?_
    rintro e w1 ⟨rfl, hb⟩
    have P := Lib.hid (heap_call hb (heap_old (heap_new (W := w) rfl)))
    have Q : Hid (w1.heap[w.heap.size + 1]? = some (.cells #[.int .i64 k, .int .i64 h] 25)) := heap_call hb (heap_new (by simp))
    have HBz := Lib.hid (((below_new _).alloc (by simp) _).trans (hb.mono (by simp; omega)))
    clear hb
    have p0 : w1.cell? ⟨w.heap.size, 0, none⟩ = some (.int .i64 n) := cell_of P.out 0
    have p1 : w1.cell? ⟨w.heap.size, 1, none⟩ = some (.int .i64 l) := cell_of P.out 1
    have p2 : w1.cell? ⟨w.heap.size, 2, none⟩ = some (.int .i64 s) := cell_of P.out 2
    go_wp2_with fail
    refine (HB.out _ _ (ints_new _ _ _ rfl)).mono ?_
    rintro e w2 ⟨rfl, hb⟩
    have P := Lib.hid (heap_call hb (heap_old P.out))
    have Q := Lib.hid (heap_call hb (heap_old Q.out))
    have HBz := Lib.hid ((HBz.out.alloc HBz.out.size _).trans (hb.mono (by have := HBz.out.size; simp; omega)))
    clear hb p0 p1 p2
    go_wp2
    go_ret2
    rw [HR.out]
    exact ⟨⟨_, rfl, ints_nil _⟩, HBz.out⟩
  by_cases g : all = false ∧ k ≠ me
  · obtain ⟨rfl, g⟩ := g
    have HR : Hid (r = ([k], 0)) := Lib.hid (by have h0 := HR0.out.symm; simpa [g] using h0)
    clear HR0
    have e1 : (k != me) = true := by simpa using g
    go_enter Try.func13, Try.ntmps13
    go_wp2_with fail
    refine (HA.out _).mono ?_
    rintro e w1 ⟨rfl, hb⟩
    have P := Lib.hid (heap_call hb (heap_old (heap_new (W := w) rfl)))
    have Q : Hid (w1.heap[w.heap.size + 1]? = some (.cells #[.int .i64 k, .int .i64 h] 25)) := heap_call hb (heap_new (by simp))
    have HBz := Lib.hid (((below_new _).alloc (by simp) _).trans (hb.mono (by simp; omega)))
    clear hb
    have p0 : w1.cell? ⟨w.heap.size, 0, none⟩ = some (.int .i64 n) := cell_of P.out 0
    have p1 : w1.cell? ⟨w.heap.size, 1, none⟩ = some (.int .i64 l) := cell_of P.out 1
    have p2 : w1.cell? ⟨w.heap.size, 2, none⟩ = some (.int .i64 s) := cell_of P.out 2
    go_wp2_with fail
    refine (HB.out _ _ (ints_new _ _ _ rfl)).mono ?_
    rintro e w2 ⟨rfl, hb⟩
    have P := Lib.hid (heap_call hb (heap_old P.out))
    have Q := Lib.hid (heap_call hb (heap_old Q.out))
    have HBz := Lib.hid ((HBz.out.alloc HBz.out.size _).trans (hb.mono (by have := HBz.out.size; simp; omega)))
    clear hb p0 p1 p2
    have q0 : w2.cell? ⟨w.heap.size + 1, 0, none⟩ = some (.int .i64 k) := cell_of Q.out 0
    go_wp2
    go_ret2
    rw [HR.out]
    exact ⟨⟨_, rfl, ints_new _ _ _ rfl⟩, HBz.out.alloc HBz.out.size _⟩
  have HR : Hid (r = (others me n.toNat, 0)) := Lib.hid (by
    have h0 := HR0.out.symm
    by_cases ha : all = false
    · have : k = me := Classical.byContradiction fun hk => g ⟨ha, hk⟩
      simpa [this] using h0
    · simpa [ha] using h0)
  clear HR0
  cases ha : all
  · have hk : k = me := Classical.byContradiction fun hk => g ⟨ha, hk⟩
    subst ha
    clear g
    subst hk
    go_enter Try.func13, Try.ntmps13
    go_wp2_with fail
    refine (HA.out _).mono ?_
    rintro e w1 ⟨rfl, hb⟩
    have P := Lib.hid (heap_call hb (heap_old (heap_new (W := w) rfl)))
    have Q : Hid (w1.heap[w.heap.size + 1]? = some (.cells #[.int .i64 k, .int .i64 h] 25)) := heap_call hb (heap_new (by simp))
    have HBz := Lib.hid (((below_new _).alloc (by simp) _).trans (hb.mono (by simp; omega)))
    clear hb
    have p0 : w1.cell? ⟨w.heap.size, 0, none⟩ = some (.int .i64 n) := cell_of P.out 0
    have p1 : w1.cell? ⟨w.heap.size, 1, none⟩ = some (.int .i64 l) := cell_of P.out 1
    have p2 : w1.cell? ⟨w.heap.size, 2, none⟩ = some (.int .i64 s) := cell_of P.out 2
    go_wp2_with fail
    refine (HB.out _ _ (ints_new _ _ _ rfl)).mono ?_
    rintro e w2 ⟨rfl, hb⟩
    have P := Lib.hid (heap_call hb (heap_old P.out))
    have Q := Lib.hid (heap_call hb (heap_old Q.out))
    have HBz := Lib.hid ((HBz.out.alloc HBz.out.size _).trans (hb.mono (by have := HBz.out.size; simp; omega)))
    clear hb p0 p1 p2
    have q0 : w2.cell? ⟨w.heap.size + 1, 0, none⟩ = some (.int .i64 k) := cell_of Q.out 0
    have p0 : w2.cell? ⟨w.heap.size, 0, none⟩ = some (.int .i64 n) := cell_of P.out 0
    have p1 : w2.cell? ⟨w.heap.size, 1, none⟩ = some (.int .i64 l) := cell_of P.out 1
    have p2 : w2.cell? ⟨w.heap.size, 2, none⟩ = some (.int .i64 s) := cell_of P.out 2
    go_wp2
    obtain ⟨N, rfl⟩ : ∃ N : Nat, n = N := Int.eq_ofNat_of_zero_le (by omega)
    have HRR : Hid (r = (others k N, 0)) := Lib.hid (by rw [HR.out]; simp)
    clear HR
    go_loopw [8, 10, 35] (fun v _ i wr => ∃ j : Nat, j ≤ N ∧ i = .int .i64 j ∧ wr.ownsRow w.heap.size 3 1 v (others k j).length ((others k j).map (Value.int .i64)) ∧ Hid (Below w.heap.size w wr)) (fun _ _ i _ => N - (intOf i).toNat)
    case atStart => exact ⟨0, Nat.zero_le _, rfl, World.ownsRow_nil _ _ _ _, HBz⟩
    case round =>
      obtain ⟨j, hj, rfl, hown, HW⟩ := hrel
      by_cases hlt : j < N
      · have hol := others_len k j
        by_cases hm : (j : Int) = k
        · have HE : Hid (others k (j + 1) = others k j) := Lib.hid (by rw [others, if_pos hm, List.append_nil])
          have e1 : ((j : Int) != k) = false := by simpa using hm
          clear hm hol
          go_wp2
          go_roundw
          case rel => exact ⟨j + 1, by omega, by go_num, by rw [HE.out]; exact hown, HW⟩
          case measure => simp [intOf]; omega
        · have HE : Hid (others k (j + 1) = others k j ++ [(j : Int)]) := Lib.hid (by rw [others, if_neg hm])
          have e1 : ((j : Int) != k) = true := by simpa using hm
          clear hm
          go_wp2_with (at_builtin; go_loud (refine wpList_append_own _ rfl _ _ 38 rfl w.heap.size 3 i0 (.int .i64 0) 1 8 Try.underlying38 hi hz0 hz1 hz2 rfl (by decide) _ _ _ rfl (hown.alloc _) ⟨wr.heap.size, 0, none⟩ 1 1 [.int .i64 j] rfl rfl (cell_one_new _ _ _) (by simp [Value.oneCell']) ?c3 ?c4 ?c5 ?_))
          case c3 => unfold maxLen; omega
          case c4 => omega
          case c5 => have := HW.out.size; simp; omega
          intro v' w3 hown' hgrow _
          have hb := ((HW.out.alloc HW.out.size _).grown hgrow (by have := HW.out.size; simp; omega) (fun k hk => (hown.lt k hk).1))
          have HW3 := Lib.hid hb
          clear hgrow hown hb e1
          go_wp2
          go_roundw
          case rel => exact ⟨j + 1, by omega, by go_num, by rw [HE.out]; simpa using hown', HW3⟩
          case measure => simp [intOf]; omega
      · obtain rfl : N = j := by omega
        go_wp2
        go_ret2
        rw [HRR.out]
        exact ⟨⟨_, rfl, Ints.of_row hown⟩, HW.out⟩
  · subst ha
    clear g
    go_enter Try.func13, Try.ntmps13
    go_wp2_with fail
    refine (HA.out _).mono ?_
    rintro e w1 ⟨rfl, hb⟩
    have P := Lib.hid (heap_call hb (heap_old (heap_new (W := w) rfl)))
    have Q : Hid (w1.heap[w.heap.size + 1]? = some (.cells #[.int .i64 k, .int .i64 h] 25)) := heap_call hb (heap_new (by simp))
    have HBz := Lib.hid (((below_new _).alloc (by simp) _).trans (hb.mono (by simp; omega)))
    clear hb
    have p0 : w1.cell? ⟨w.heap.size, 0, none⟩ = some (.int .i64 n) := cell_of P.out 0
    have p1 : w1.cell? ⟨w.heap.size, 1, none⟩ = some (.int .i64 l) := cell_of P.out 1
    have p2 : w1.cell? ⟨w.heap.size, 2, none⟩ = some (.int .i64 s) := cell_of P.out 2
    go_wp2_with fail
    refine (HB.out _ _ (ints_new _ _ _ rfl)).mono ?_
    rintro e w2 ⟨rfl, hb⟩
    have P := Lib.hid (heap_call hb (heap_old P.out))
    have Q := Lib.hid (heap_call hb (heap_old Q.out))
    have HBz := Lib.hid ((HBz.out.alloc HBz.out.size _).trans (hb.mono (by have := HBz.out.size; simp; omega)))
    clear hb p0 p1 p2
    have p0 : w2.cell? ⟨w.heap.size, 0, none⟩ = some (.int .i64 n) := cell_of P.out 0
    have p1 : w2.cell? ⟨w.heap.size, 1, none⟩ = some (.int .i64 l) := cell_of P.out 1
    have p2 : w2.cell? ⟨w.heap.size, 2, none⟩ = some (.int .i64 s) := cell_of P.out 2
    go_wp2
    obtain ⟨N, rfl⟩ : ∃ N : Nat, n = N := Int.eq_ofNat_of_zero_le (by omega)
    have HRR : Hid (r = (others me N, 0)) := Lib.hid (by rw [HR.out]; simp)
    clear HR
    go_loopw [8, 10, 35] (fun v _ i wr => ∃ j : Nat, j ≤ N ∧ i = .int .i64 j ∧ wr.ownsRow w.heap.size 3 1 v (others me j).length ((others me j).map (Value.int .i64)) ∧ Hid (Below w.heap.size w wr)) (fun _ _ i _ => N - (intOf i).toNat)
    case atStart => exact ⟨0, Nat.zero_le _, rfl, World.ownsRow_nil _ _ _ _, HBz⟩
    case round =>
      obtain ⟨j, hj, rfl, hown, HW⟩ := hrel
      by_cases hlt : j < N
      · have hol := others_len me j
        by_cases hm : (j : Int) = me
        · have HE : Hid (others me (j + 1) = others me j) := Lib.hid (by rw [others, if_pos hm, List.append_nil])
          have e1 : ((j : Int) != me) = false := by simpa using hm
          clear hm hol
          go_wp2
          go_roundw
          case rel => exact ⟨j + 1, by omega, by go_num, by rw [HE.out]; exact hown, HW⟩
          case measure => simp [intOf]; omega
        · have HE : Hid (others me (j + 1) = others me j ++ [(j : Int)]) := Lib.hid (by rw [others, if_neg hm])
          have e1 : ((j : Int) != me) = true := by simpa using hm
          clear hm
          go_wp2_with (at_builtin; go_loud (refine wpList_append_own _ rfl _ _ 38 rfl w.heap.size 3 i0 (.int .i64 0) 1 8 Try.underlying38 hi hz0 hz1 hz2 rfl (by decide) _ _ _ rfl (hown.alloc _) ⟨wr.heap.size, 0, none⟩ 1 1 [.int .i64 j] rfl rfl (cell_one_new _ _ _) (by simp [Value.oneCell']) ?c3 ?c4 ?c5 ?_))
          case c3 => unfold maxLen; omega
          case c4 => omega
          case c5 => have := HW.out.size; simp; omega
          intro v' w3 hown' hgrow _
          have hb := ((HW.out.alloc HW.out.size _).grown hgrow (by have := HW.out.size; simp; omega) (fun k hk => (hown.lt k hk).1))
          have HW3 := Lib.hid hb
          clear hgrow hown hb e1
          go_wp2
          go_roundw
          case rel => exact ⟨j + 1, by omega, by go_num, by rw [HE.out]; simpa using hown', HW3⟩
          case measure => simp [intOf]; omega
      · obtain rfl : N = j := by omega
        go_wp2
        go_ret2
        rw [HRR.out]
        exact ⟨⟨_, rfl, Ints.of_row hown⟩, HW.out⟩
theorem _root_.Go.World.ownsRow.not_cells23 {w : World} {B k n : Nat} {v : Value} {xs : List Value} {c : Array Value} (h : w.ownsRow B 3 1 v n xs) (hk : w.heap[k]? = some (.cells c 23)) : v.ownBlock ≠ some k := by
  intro e
  obtain ⟨h1, ⟨rfl, rfl⟩ | ⟨g, cap, cur, rfl, h4, h5, h6⟩⟩ := h
  · cases e
  · simp only [Value.ownBlock] at e
    cases e
    rw [h5] at hk
    cases hk
theorem refFirst_any (n l s me : Int) (x : Ow) (all : Bool) (w : World) : Calls Try.prog 14 #[shapeV n l s, .int .i64 me, x.val, .bool all] w (FirstPost (firstR n l s me x all) w) := by
  obtain ⟨i0, hi, hz0, hz1, hz2⟩ := info_parts Try.info3
  have HA := Lib.hid (refRight_any n l s x)
  have HB := Lib.hid (refNode_any n l s me)
  generalize hr : firstR n l s me x all = r
  have HR0 := Lib.hid hr
  clear hr
  unfold firstR at HR0
  have HS : Hid (ownOk n l s x = true → shapeOk n l s = true) := ownOk_shape
  have HS2 : Hid (shapeOk n l s = true → 1 ≤ n ∧ n ≤ 64 ∧ 1 ≤ s ∧ s ≤ 4) := shape_parts
  obtain ⟨k, h⟩ := x
  simp only [Ow.val, shapeV] at *
  generalize ownOk n l s ⟨k, h⟩ = a at *
  generalize shapeOk n l s = sh at *
  generalize nodeOk n me = b at *
  cases a
  · have HR : Hid (r = ([], 2)) := Lib.hid (by have h0 := HR0.out.symm; simpa using h0)
    clear HR0 HS HS2
    go_enter Try.func14, Try.ntmps14
    go_wp2_with fail
    refine (HA.out _).mono ?_
    rintro e w1 ⟨rfl, hb⟩
    have P := Lib.hid (heap_call hb (heap_old (heap_new (W := w) rfl)))
    have Q : Hid (w1.heap[w.heap.size + 1]? = some (.cells #[.int .i64 k, .int .i64 h] 25)) := heap_call hb (heap_new (by simp))
    have HBz := Lib.hid (((below_new _).alloc (by simp) _).trans (hb.mono (by simp; omega)))
    clear hb
    go_wp2
    go_ret2
    rw [HR.out]
    exact ⟨⟨_, rfl, ints_nil _⟩, HBz.out⟩
  obtain rfl := HS.out rfl
  obtain ⟨hn0, hn1, -, -⟩ := HS2.out rfl
  clear HS HS2
  cases b
  · have HR : Hid (r = ([], 2)) := Lib.hid (by have h0 := HR0.out.symm; simpa using h0)
    clear HR0
    go_enter Try.func14, Try.ntmps14
    go_wp2_with fail
    refine (HA.out _).mono ?_
    rintro e w1 ⟨rfl, hb⟩
    have P := Lib.hid (heap_call hb (heap_old (heap_new (W := w) rfl)))
    have Q : Hid (w1.heap[w.heap.size + 1]? = some (.cells #[.int .i64 k, .int .i64 h] 25)) := heap_call hb (heap_new (by simp))
    have HBz := Lib.hid (((below_new _).alloc (by simp) _).trans (hb.mono (by simp; omega)))
    clear hb
    have p0 : w1.cell? ⟨w.heap.size, 0, none⟩ = some (.int .i64 n) := cell_of P.out 0
    have p1 : w1.cell? ⟨w.heap.size, 1, none⟩ = some (.int .i64 l) := cell_of P.out 1
    have p2 : w1.cell? ⟨w.heap.size, 2, none⟩ = some (.int .i64 s) := cell_of P.out 2
    go_wp2_with fail
    refine (HB.out _).mono ?_
    rintro e w2 ⟨rfl, hb⟩
    have P := Lib.hid (heap_call hb P.out)
    have Q := Lib.hid (heap_call hb Q.out)
    have HBz := Lib.hid (HBz.out.trans (hb.mono HBz.out.size))
    clear hb p0 p1 p2
    go_wp2
    go_ret2
    rw [HR.out]
    exact ⟨⟨_, rfl, ints_nil _⟩, HBz.out⟩
  by_cases g : all = false ∧ k ≠ me
  · obtain ⟨rfl, g⟩ := g
    have HR : Hid (r = ([k], 0)) := Lib.hid (by have h0 := HR0.out.symm; simpa [g] using h0)
    clear HR0
    have e1 : (k != me) = true := by simpa using g
    go_enter Try.func14, Try.ntmps14
    go_wp2_with fail
    refine (HA.out _).mono ?_
    rintro e w1 ⟨rfl, hb⟩
    have P := Lib.hid (heap_call hb (heap_old (heap_new (W := w) rfl)))
    have Q : Hid (w1.heap[w.heap.size + 1]? = some (.cells #[.int .i64 k, .int .i64 h] 25)) := heap_call hb (heap_new (by simp))
    have HBz := Lib.hid (((below_new _).alloc (by simp) _).trans (hb.mono (by simp; omega)))
    clear hb
    have p0 : w1.cell? ⟨w.heap.size, 0, none⟩ = some (.int .i64 n) := cell_of P.out 0
    have p1 : w1.cell? ⟨w.heap.size, 1, none⟩ = some (.int .i64 l) := cell_of P.out 1
    have p2 : w1.cell? ⟨w.heap.size, 2, none⟩ = some (.int .i64 s) := cell_of P.out 2
    go_wp2_with fail
    refine (HB.out _).mono ?_
    rintro e w2 ⟨rfl, hb⟩
    have P := Lib.hid (heap_call hb P.out)
    have Q := Lib.hid (heap_call hb Q.out)
    have HBz := Lib.hid (HBz.out.trans (hb.mono HBz.out.size))
    clear hb p0 p1 p2
    have q0 : w2.cell? ⟨w.heap.size + 1, 0, none⟩ = some (.int .i64 k) := cell_of Q.out 0
    go_wp2
    go_ret2
    rw [HR.out]
    exact ⟨⟨_, rfl, ints_new _ _ _ rfl⟩, HBz.out.alloc HBz.out.size _⟩
  have HR : Hid (r = (others me n.toNat, 0)) := Lib.hid (by
    have h0 := HR0.out.symm
    by_cases ha : all = false
    · have : k = me := Classical.byContradiction fun hk => g ⟨ha, hk⟩
      simpa [this] using h0
    · simpa [ha] using h0)
  clear HR0
  cases ha : all
  · have hk : k = me := Classical.byContradiction fun hk => g ⟨ha, hk⟩
    subst ha
    clear g
    subst hk
    go_enter Try.func14, Try.ntmps14
    go_wp2_with fail
    refine (HA.out _).mono ?_
    rintro e w1 ⟨rfl, hb⟩
    have P := Lib.hid (heap_call hb (heap_old (heap_new (W := w) rfl)))
    have Q : Hid (w1.heap[w.heap.size + 1]? = some (.cells #[.int .i64 k, .int .i64 h] 25)) := heap_call hb (heap_new (by simp))
    have HBz := Lib.hid (((below_new _).alloc (by simp) _).trans (hb.mono (by simp; omega)))
    clear hb
    have p0 : w1.cell? ⟨w.heap.size, 0, none⟩ = some (.int .i64 n) := cell_of P.out 0
    have p1 : w1.cell? ⟨w.heap.size, 1, none⟩ = some (.int .i64 l) := cell_of P.out 1
    have p2 : w1.cell? ⟨w.heap.size, 2, none⟩ = some (.int .i64 s) := cell_of P.out 2
    go_wp2_with fail
    refine (HB.out _).mono ?_
    rintro e w2 ⟨rfl, hb⟩
    have P := Lib.hid (heap_call hb P.out)
    have Q := Lib.hid (heap_call hb Q.out)
    have HBz := Lib.hid (HBz.out.trans (hb.mono HBz.out.size))
    clear hb p0 p1 p2
    have q0 : w2.cell? ⟨w.heap.size + 1, 0, none⟩ = some (.int .i64 k) := cell_of Q.out 0
    have p0 : w2.cell? ⟨w.heap.size, 0, none⟩ = some (.int .i64 n) := cell_of P.out 0
    have p1 : w2.cell? ⟨w.heap.size, 1, none⟩ = some (.int .i64 l) := cell_of P.out 1
    have p2 : w2.cell? ⟨w.heap.size, 2, none⟩ = some (.int .i64 s) := cell_of P.out 2
    go_wp2
    obtain ⟨N, rfl⟩ : ∃ N : Nat, n = N := Int.eq_ofNat_of_zero_le (by omega)
    have HRR : Hid (r = (others k N, 0)) := Lib.hid (by rw [HR.out]; simp)
    clear HR
    go_loopw [10, 11] (fun v i wr => ∃ j : Nat, j ≤ N ∧ i = .int .i64 j ∧ wr.ownsRow w.heap.size 3 1 v (others k j).length ((others k j).map (Value.int .i64)) ∧ Hid (Below w.heap.size w wr) ∧ Hid (wr.heap[w.heap.size]? = some (.cells #[.int .i64 (N : Int), .int .i64 l, .int .i64 s] 23))) (fun _ i _ => N - (intOf i).toNat)
    case atStart => exact ⟨0, Nat.zero_le _, rfl, World.ownsRow_nil _ _ _ _, HBz, P⟩
    case round =>
      obtain ⟨j, hj, rfl, hown, HW, HP⟩ := hrel
      by_cases hlt : j < N
      · have hol := others_len k j
        by_cases hm : (j : Int) = k
        · have HE : Hid (others k (j + 1) = others k j) := Lib.hid (by rw [others, if_pos hm, List.append_nil])
          have e1 : ((j : Int) != k) = false := by simpa using hm
          clear hm hol
          have p0 : wr.cell? ⟨w.heap.size, 0, none⟩ = some (.int .i64 N) := cell_of HP.out 0
          go_wp2
          go_roundw
          case rel => exact ⟨j + 1, by omega, by go_num, by rw [HE.out]; exact hown, HW, HP⟩
          case measure => simp [intOf]; omega
        · have HE : Hid (others k (j + 1) = others k j ++ [(j : Int)]) := Lib.hid (by rw [others, if_neg hm])
          have e1 : ((j : Int) != k) = true := by simpa using hm
          clear hm
          have p0 : wr.cell? ⟨w.heap.size, 0, none⟩ = some (.int .i64 N) := cell_of HP.out 0
          go_wp2_with (at_builtin; go_loud (refine wpList_append_own _ rfl _ _ 38 rfl w.heap.size 3 i0 (.int .i64 0) 1 8 Try.underlying38 hi hz0 hz1 hz2 rfl (by decide) _ _ _ rfl (hown.alloc _) ⟨wr.heap.size, 0, none⟩ 1 1 [.int .i64 j] rfl rfl (cell_one_new _ _ _) (by simp [Value.oneCell']) ?c3 ?c4 ?c5 ?_))
          case c3 => unfold maxLen; omega
          case c4 => omega
          case c5 => have := HW.out.size; simp; omega
          intro v' w3 hown' hgrow _
          have hb := ((HW.out.alloc HW.out.size _).grown hgrow (by have := HW.out.size; simp; omega) (fun k hk => (hown.lt k hk).1))
          have HW3 := Lib.hid hb
          have HP3 : Hid (w3.heap[w.heap.size]? = _) := Lib.hid ((hgrow.block w.heap.size (by have := heap_lt HP.out; simp; omega) (fun e => hown.not_cells23 HP.out e.symm)).trans (heap_old HP.out))
          clear hgrow hown hb e1
          go_wp2
          go_roundw
          case rel => exact ⟨j + 1, by omega, by go_num, by rw [HE.out]; simpa using hown', HW3, HP3⟩
          case measure => simp [intOf]; omega
      · obtain rfl : N = j := by omega
        have p0 : wr.cell? ⟨w.heap.size, 0, none⟩ = some (.int .i64 N) := cell_of HP.out 0
        go_wp2
        go_ret2
        rw [HRR.out]
        exact ⟨⟨_, rfl, Ints.of_row hown⟩, HW.out⟩
  · subst ha
    clear g
    go_enter Try.func14, Try.ntmps14
    go_wp2_with fail
    refine (HA.out _).mono ?_
    rintro e w1 ⟨rfl, hb⟩
    have P := Lib.hid (heap_call hb (heap_old (heap_new (W := w) rfl)))
    have Q : Hid (w1.heap[w.heap.size + 1]? = some (.cells #[.int .i64 k, .int .i64 h] 25)) := heap_call hb (heap_new (by simp))
    have HBz := Lib.hid (((below_new _).alloc (by simp) _).trans (hb.mono (by simp; omega)))
    clear hb
    have p0 : w1.cell? ⟨w.heap.size, 0, none⟩ = some (.int .i64 n) := cell_of P.out 0
    have p1 : w1.cell? ⟨w.heap.size, 1, none⟩ = some (.int .i64 l) := cell_of P.out 1
    have p2 : w1.cell? ⟨w.heap.size, 2, none⟩ = some (.int .i64 s) := cell_of P.out 2
    go_wp2_with fail
    refine (HB.out _).mono ?_
    rintro e w2 ⟨rfl, hb⟩
    have P := Lib.hid (heap_call hb P.out)
    have Q := Lib.hid (heap_call hb Q.out)
    have HBz := Lib.hid (HBz.out.trans (hb.mono HBz.out.size))
    clear hb p0 p1 p2
    have p0 : w2.cell? ⟨w.heap.size, 0, none⟩ = some (.int .i64 n) := cell_of P.out 0
    have p1 : w2.cell? ⟨w.heap.size, 1, none⟩ = some (.int .i64 l) := cell_of P.out 1
    have p2 : w2.cell? ⟨w.heap.size, 2, none⟩ = some (.int .i64 s) := cell_of P.out 2
    go_wp2
    obtain ⟨N, rfl⟩ : ∃ N : Nat, n = N := Int.eq_ofNat_of_zero_le (by omega)
    have HRR : Hid (r = (others me N, 0)) := Lib.hid (by rw [HR.out]; simp)
    clear HR
    go_loopw [10, 11] (fun v i wr => ∃ j : Nat, j ≤ N ∧ i = .int .i64 j ∧ wr.ownsRow w.heap.size 3 1 v (others me j).length ((others me j).map (Value.int .i64)) ∧ Hid (Below w.heap.size w wr) ∧ Hid (wr.heap[w.heap.size]? = some (.cells #[.int .i64 (N : Int), .int .i64 l, .int .i64 s] 23))) (fun _ i _ => N - (intOf i).toNat)
    case atStart => exact ⟨0, Nat.zero_le _, rfl, World.ownsRow_nil _ _ _ _, HBz, P⟩
    case round =>
      obtain ⟨j, hj, rfl, hown, HW, HP⟩ := hrel
      by_cases hlt : j < N
      · have hol := others_len me j
        by_cases hm : (j : Int) = me
        · have HE : Hid (others me (j + 1) = others me j) := Lib.hid (by rw [others, if_pos hm, List.append_nil])
          have e1 : ((j : Int) != me) = false := by simpa using hm
          clear hm hol
          have p0 : wr.cell? ⟨w.heap.size, 0, none⟩ = some (.int .i64 N) := cell_of HP.out 0
          go_wp2
          go_roundw
          case rel => exact ⟨j + 1, by omega, by go_num, by rw [HE.out]; exact hown, HW, HP⟩
          case measure => simp [intOf]; omega
        · have HE : Hid (others me (j + 1) = others me j ++ [(j : Int)]) := Lib.hid (by rw [others, if_neg hm])
          have e1 : ((j : Int) != me) = true := by simpa using hm
          clear hm
          have p0 : wr.cell? ⟨w.heap.size, 0, none⟩ = some (.int .i64 N) := cell_of HP.out 0
          go_wp2_with (at_builtin; go_loud (refine wpList_append_own _ rfl _ _ 38 rfl w.heap.size 3 i0 (.int .i64 0) 1 8 Try.underlying38 hi hz0 hz1 hz2 rfl (by decide) _ _ _ rfl (hown.alloc _) ⟨wr.heap.size, 0, none⟩ 1 1 [.int .i64 j] rfl rfl (cell_one_new _ _ _) (by simp [Value.oneCell']) ?c3 ?c4 ?c5 ?_))
          case c3 => unfold maxLen; omega
          case c4 => omega
          case c5 => have := HW.out.size; simp; omega
          intro v' w3 hown' hgrow _
          have hb := ((HW.out.alloc HW.out.size _).grown hgrow (by have := HW.out.size; simp; omega) (fun k hk => (hown.lt k hk).1))
          have HW3 := Lib.hid hb
          have HP3 : Hid (w3.heap[w.heap.size]? = _) := Lib.hid ((hgrow.block w.heap.size (by have := heap_lt HP.out; simp; omega) (fun e => hown.not_cells23 HP.out e.symm)).trans (heap_old HP.out))
          clear hgrow hown hb e1
          go_wp2
          go_roundw
          case rel => exact ⟨j + 1, by omega, by go_num, by rw [HE.out]; simpa using hown', HW3, HP3⟩
          case measure => simp [intOf]; omega
      · obtain rfl : N = j := by omega
        have p0 : wr.cell? ⟨w.heap.size, 0, none⟩ = some (.int .i64 N) := cell_of HP.out 0
        go_wp2
        go_ret2
        rw [HRR.out]
        exact ⟨⟨_, rfl, Ints.of_row hown⟩, HW.out⟩
end Go.Proofs.Ytoanpfbdhkgncaa
