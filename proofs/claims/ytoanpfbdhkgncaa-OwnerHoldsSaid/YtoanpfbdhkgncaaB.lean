/-
  PROVED: The contracts of owner's hop and there. CONDITIONS: the numbers lie in the world.
-/
import Derived.Test.YtoanpfbdhkgncaaA
namespace Go.Proofs.Ytoanpfbdhkgncaa
open Go.RowKit
set_option maxRecDepth 100000
set_option maxHeartbeats 1000000
def hopOk (h : Int) : Bool := decide (0 ≤ h) && decide (h ≤ 1099511627776)
def nodeOk (n k : Int) : Bool := decide (0 ≤ k) && decide (k < n)
theorem hop_any (h : Int) (w : World) : Calls Try.prog 24 #[.int .i64 h] w fun e w' => e = .returned (.bool (hopOk h)) ∧ w' = w := by
  unfold hopOk
  by_cases h1 : 0 ≤ h
  · by_cases h2 : h ≤ 1099511627776
    · rw [decide_eq_true h1, decide_eq_true h2]
      go_enter Try.func24, Try.ntmps24
      go_wp2
      go_ret
      exact ⟨rfl, rfl⟩
    · rw [decide_eq_true h1, decide_eq_false h2]
      go_enter Try.func24, Try.ntmps24
      go_wp2
      go_ret
      exact ⟨rfl, rfl⟩
  · rw [decide_eq_false h1]
    go_enter Try.func24, Try.ntmps24
    go_wp2
    go_ret
    exact ⟨rfl, rfl⟩
theorem out_any (n k : Int) (Sb : Nat) (w : World) (hc : w.cell? ⟨Sb, 0, none⟩ = some (.int .i64 n)) : Calls Try.prog 37 #[.int .i64 k, .pointer (some ⟨Sb, 0, none⟩)] w fun e w' => e = .returned (.bool (!nodeOk n k)) ∧ w' = w := by
  unfold nodeOk
  by_cases h1 : 0 ≤ k
  · by_cases h2 : k < n
    · rw [decide_eq_true h1, decide_eq_true h2]
      go_enter Try.func37, Try.ntmps37
      go_wp2
      go_ret
      exact ⟨by first | rfl | (simp; omega), rfl⟩
    · rw [decide_eq_true h1, decide_eq_false h2]
      go_enter Try.func37, Try.ntmps37
      go_wp2
      go_ret
      exact ⟨by first | rfl | (simp; omega), rfl⟩
  · rw [decide_eq_false h1]
    go_enter Try.func37, Try.ntmps37
    go_wp2
    go_ret
    exact ⟨by first | rfl | (simp; omega), rfl⟩
/-- The numbers that a slice leads to. -/
def Ints (w : World) (v : Value) (l : List Int) : Prop :=
  ∃ ao cp, v = .slice ao l.length cp ∧ l.length ≤ 9223372036854775807 ∧ (0 < l.length → ∃ b off, ao = some ⟨b, off, none⟩ ∧ ∀ i (h : i < l.length), w.cell? ⟨b, off + i, none⟩ = some (.int .i64 l[i]))
theorem Ints.below {w w' : World} {v : Value} {l : List Int} {B : Nat} (h : Ints w v l) (hb : Below B w w') (hB : w.heap.size ≤ B) : Ints w' v l := by
  obtain ⟨ao, cp, hv, hl, hc⟩ := h
  refine ⟨ao, cp, hv, hl, fun h0 => ?_⟩
  obtain ⟨b, off, ha, hc⟩ := hc h0
  exact ⟨b, off, ha, fun i hi => (hb.cell (Nat.lt_of_lt_of_le (World.block_lt_of_cell? w _ (hc i hi)) hB)).trans (hc i hi)⟩
theorem index_any (n : Int) (Sb : Nat) (v : Value) (l : List Int) (w : World) (h : Ints w v l) (hs : w.cell? ⟨Sb, 0, none⟩ = some (.int .i64 n)) :
    Calls Try.prog 46 #[v, .func (.func 37) #[] #[.pointer (some ⟨Sb, 0, none⟩)]] w fun e w' => (∃ i : Int, e = .returned (.int .i64 i) ∧ (l.all (nodeOk n) = true → i = -1) ∧ (l.all (nodeOk n) = false → 0 ≤ i)) ∧ w' = w := by
  obtain ⟨ao, cp, rfl, hl, hc⟩ := h
  have HC := Lib.hid hc
  have HO := Lib.hid (fun k => out_any n k Sb w hs)
  clear hc hs
  go_enter Try.func46, Try.ntmps46
  go_wp2
  go_loopw [5, 8] (fun _ i wr => ∃ j : Nat, i = .int .i64 j ∧ j ≤ l.length ∧ Hid ((l.take j).all (nodeOk n) = true) ∧ wr = w) (fun _ i _ => l.length - (intOf i).toNat)
  case atStart => exact ⟨0, rfl, by omega, rfl, rfl⟩
  case round =>
    obtain ⟨j, rfl, hj, hall, rfl⟩ := hrel
    by_cases hlt : j < l.length
    · obtain ⟨b, off, rfl, hcell⟩ := HC.out (by omega)
      have c0 := hcell j hlt
      generalize hx : l[j] = x at c0
      have HX := Lib.hid hx
      clear hcell hx
      go_wp2_with fail
      refine (HO.out x).mono ?_
      rintro e w1 ⟨rfl, rfl⟩
      cases hk : nodeOk n x
      · have HK := Lib.hid hk
        clear hk
        go_wp2
        go_ret
        refine ⟨⟨j, rfl, fun h => ?_, fun _ => by omega⟩, rfl⟩
        have h1 := List.all_eq_true.1 h l[j] (List.getElem_mem hlt)
        rw [HX.out, HK.out] at h1
        cases h1
      · have HK := Lib.hid hk
        clear hk
        go_wp2
        go_roundw
        case rel => go_light; exact ⟨j + 1, by go_num, by omega, by show _ = _; rw [List.take_succ_eq_append_getElem hlt, List.all_append, hall.out, HX.out]; simp [HK.out], by first | rfl | trivial⟩
        case measure => go_light; simp [intOf]; omega
    · obtain rfl : j = l.length := by omega
      go_wp2
      go_ret
      refine ⟨⟨-1, rfl, fun _ => rfl, fun h => ?_⟩, rfl⟩
      have h1 := hall.out
      rw [List.take_length, h] at h1
      cases h1
theorem contains_any (n : Int) (Sb : Nat) (v : Value) (l : List Int) (w : World) (h : Ints w v l) (hs : w.cell? ⟨Sb, 0, none⟩ = some (.int .i64 n)) :
    Calls Try.prog 36 #[v, .func (.func 37) #[] #[.pointer (some ⟨Sb, 0, none⟩)]] w fun e w' => e = .returned (.bool (!l.all (nodeOk n))) ∧ w' = w := by
  have HI := Lib.hid (index_any n Sb v l w h hs)
  obtain ⟨ao, cp, rfl, hl, -⟩ := h
  clear hs
  go_enter Try.func36, Try.ntmps36
  go_wp2_with fail
  refine HI.out.mono ?_
  rintro e w1 ⟨⟨i, rfl, h1, h2⟩, rfl⟩
  cases hk : l.all (nodeOk n)
  · have h3 := h2 hk
    have HK := Lib.hid hk
    clear h1 h2 hk
    go_wp2
    go_ret
    exact ⟨by rw [HK.out]; rfl, rfl⟩
  · obtain rfl := h1 hk
    have HK := Lib.hid hk
    clear h1 h2 hk
    go_wp2
    go_ret
    exact ⟨by rw [HK.out]; rfl, rfl⟩
theorem there_any (n l s : Int) (v : Value) (xs : List Int) (w : World) (h : Ints w v xs) :
    Calls Try.prog 23 #[shapeV n l s, v] w fun e w' => e = .returned (.bool (shapeOk n l s && xs.all (nodeOk n))) ∧ Below w.heap.size w w' := by
  have HCK := Lib.hid (check_any n l s)
  have HC := Lib.hid (fun Sb w h hs => contains_any n Sb v xs w h hs)
  have HST := Lib.hid h
  obtain ⟨ao, cp, rfl, hl, -⟩ := h
  unfold shapeNo at HCK
  generalize hb : xs.all (nodeOk n) = b at HC
  generalize hr : (shapeOk n l s && b) = r
  have HR := Lib.hid hr
  clear hb hr
  cases hok : shapeOk n l s
  · rw [hok] at HCK
    have HOK := Lib.hid hok
    clear hok
    unfold shapeV at *
    go_enter Try.func23, Try.ntmps23
    go_wp2_with fail
    refine (HCK.out _).mono ?_
    rintro e w1 ⟨rfl, hb⟩
    have HB := Lib.hid ((below_new _).trans (hb.mono (by simp)))
    clear hb
    go_wp2
    go_ret
    exact ⟨by rw [← HR.out, HOK.out]; rfl, HB.out⟩
  · rw [hok] at HCK
    have HOK := Lib.hid hok
    clear hok
    unfold shapeV at *
    go_enter Try.func23, Try.ntmps23
    go_wp2_with fail
    refine (HCK.out _).mono ?_
    rintro e w1 ⟨rfl, hb⟩
    have q0 := (hb.cell (p := ⟨w.heap.size, 0, none⟩) (by simp)).trans (show _ = some (.int .i64 n) by simp)
    have HB := Lib.hid ((below_new _).trans (hb.mono (by simp)))
    clear hb
    go_wp2_with fail
    refine (HC.out _ _ (HST.out.below HB.out (Nat.le_refl _)) q0).mono ?_
    rintro e w2 ⟨rfl, rfl⟩
    cases b
    all_goals
      go_wp2
      go_ret
      exact ⟨by rw [← HR.out, HOK.out]; rfl, HB.out⟩
end Go.Proofs.Ytoanpfbdhkgncaa
