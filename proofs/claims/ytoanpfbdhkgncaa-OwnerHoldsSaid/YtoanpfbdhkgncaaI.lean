/-
  PROVED: The contract of owner's asked. CONDITIONS: the guesses lie in the world.
-/
import Derived.Test.YtoanpfbdhkgncaaH
namespace Go.Proofs.Ytoanpfbdhkgncaa
open Go.RowKit
set_option maxRecDepth 100000
set_option maxHeartbeats 2000000
/-- The guesses that a slice leads to. -/
def Cell2 (w : World) (b o : Nat) (x : Ow) : Prop :=
  w.cell? ⟨b, o, none⟩ = some (.int .i64 x.node) ∧ w.cell? ⟨b, o + 1, none⟩ = some (.int .i64 x.hop)
def Owns (w : World) (v : Value) (l : List Ow) : Prop :=
  ∃ ao cp, v = .slice ao l.length cp ∧ l.length ≤ 9223372036854775807 ∧ (0 < l.length → ∃ b off, ao = some ⟨b, off, none⟩ ∧ ∀ i (h : i < l.length), Cell2 w b (off + i * 2) l[i])
theorem Cell2.below {w w' : World} {B b o : Nat} {x : Ow} (h : Cell2 w b o x) (hb : Below B w w') (hB : w.heap.size ≤ B) : Cell2 w' b o x := by
  obtain ⟨h0, h1⟩ := h
  have hl : b < B := Nat.lt_of_lt_of_le (World.block_lt_of_cell? w _ h0) hB
  exact ⟨(hb.cell (p := ⟨b, _, none⟩) hl).trans h0, (hb.cell (p := ⟨b, _, none⟩) hl).trans h1⟩
theorem Owns.below {w w' : World} {v : Value} {l : List Ow} {B : Nat} (h : Owns w v l) (hb : Below B w w') (hB : w.heap.size ≤ B) : Owns w' v l := by
  obtain ⟨ao, cp, hv, hl, hc⟩ := h
  refine ⟨ao, cp, hv, hl, fun h0 => ?_⟩
  obtain ⟨b, off, ha, hc⟩ := hc h0
  exact ⟨b, off, ha, fun i hi => (hc i hi).below hb hB⟩
theorem outO_any (n l s : Int) (x : Ow) (Sb : Nat) (w : World) (hP : w.heap[Sb]? = some (.cells #[.int .i64 n, .int .i64 l, .int .i64 s] 23)) :
    Calls Try.prog 43 #[x.val, .pointer (some ⟨Sb, 0, none⟩)] w fun e w' => e = .returned (.bool (!ownOk n l s x)) ∧ Below w.heap.size w w' := by
  have HA := Lib.hid (right_own n l s x)
  obtain ⟨k, h⟩ := x
  simp only [Ow.val, shapeV] at *
  generalize ownOk n l s ⟨k, h⟩ = a at *
  have p0 : w.cell? ⟨Sb, 0, none⟩ = some (.int .i64 n) := cell_of hP 0
  have p1 : w.cell? ⟨Sb, 1, none⟩ = some (.int .i64 l) := cell_of hP 1
  have p2 : w.cell? ⟨Sb, 2, none⟩ = some (.int .i64 s) := cell_of hP 2
  have hlt := heap_lt hP
  clear hP
  go_enter Try.func43, Try.ntmps43
  go_wp2_with fail
  refine (HA.out _).mono ?_
  rintro e w1 ⟨rfl, hb⟩
  have HB := Lib.hid ((below_new _).trans (hb.mono (by simp)))
  clear hb
  go_wp2
  go_ret
  exact ⟨rfl, HB.out⟩
theorem indexO_any (n l s : Int) (Sb : Nat) (v : Value) (xs : List Ow) (w : World) (h : Owns w v xs) (hP : w.heap[Sb]? = some (.cells #[.int .i64 n, .int .i64 l, .int .i64 s] 23)) :
    Calls Try.prog 47 #[v, .func (.func 43) #[] #[.pointer (some ⟨Sb, 0, none⟩)]] w fun e w' => (∃ i : Int, e = .returned (.int .i64 i) ∧ (xs.all (ownOk n l s) = true → i = -1) ∧ (xs.all (ownOk n l s) = false → 0 ≤ i)) ∧ Below w.heap.size w w' := by
  obtain ⟨ao, cp, rfl, hl, hc⟩ := h
  have HC := Lib.hid hc
  have HP := Lib.hid hP
  clear hc hP
  go_enter Try.func47, Try.ntmps47
  go_wp2
  go_loopw [5, 8] (fun _ i wr => ∃ j : Nat, i = .int .i64 j ∧ j ≤ xs.length ∧ Hid ((xs.take j).all (ownOk n l s) = true) ∧ Hid (Below w.heap.size w wr)) (fun _ i _ => xs.length - (intOf i).toNat)
  case atStart => exact ⟨0, rfl, by omega, rfl, Below.refl _ _⟩
  case round =>
    obtain ⟨j, rfl, hj, hall, hw⟩ := hrel
    by_cases hlt : j < xs.length
    · obtain ⟨b, off, rfl, hcell⟩ := HC.out (by omega)
      obtain ⟨c0, c1⟩ := (hcell j hlt).below hw.out (Nat.le_refl _)
      generalize hx : xs[j] = x at c0 c1
      have HX := Lib.hid hx
      have hbad := fun w h => outO_any n l s x Sb w h
      have HBAD := Lib.hid hbad
      clear hcell hx hbad
      go_wp2_with fail
      refine (HBAD.out _ (heap_call hw.out HP.out)).mono ?_
      rintro e w1 ⟨rfl, hb1⟩
      have HB1 := Lib.hid (hw.out.trans (hb1.mono hw.out.size))
      clear hb1 c0 c1
      cases hk : ownOk n l s x
      · have HK := Lib.hid hk
        clear hk
        go_wp2
        go_ret
        refine ⟨⟨j, rfl, fun h => ?_, fun _ => by omega⟩, HB1.out⟩
        have h1 := List.all_eq_true.1 h xs[j] (List.getElem_mem hlt)
        rw [HX.out, HK.out] at h1
        cases h1
      · have HK := Lib.hid hk
        clear hk
        go_wp2
        go_roundw
        case rel => go_light; exact ⟨j + 1, by go_num, by omega, by show _ = _; rw [List.take_succ_eq_append_getElem hlt, List.all_append, hall.out, HX.out]; simp [HK.out], HB1⟩
        case measure => go_light; simp [intOf]; omega
    · obtain rfl : j = xs.length := by omega
      go_wp2
      go_ret
      refine ⟨⟨-1, rfl, fun _ => rfl, fun h => ?_⟩, hw.out⟩
      have h1 := hall.out
      rw [List.take_length, h] at h1
      cases h1
theorem containsO_any (n l s : Int) (Sb : Nat) (v : Value) (xs : List Ow) (w : World) (h : Owns w v xs) (hP : w.heap[Sb]? = some (.cells #[.int .i64 n, .int .i64 l, .int .i64 s] 23)) :
    Calls Try.prog 42 #[v, .func (.func 43) #[] #[.pointer (some ⟨Sb, 0, none⟩)]] w fun e w' => e = .returned (.bool (!xs.all (ownOk n l s))) ∧ Below w.heap.size w w' := by
  have HI := Lib.hid (indexO_any n l s Sb v xs w h hP)
  obtain ⟨ao, cp, rfl, hl, -⟩ := h
  clear hP
  go_enter Try.func42, Try.ntmps42
  go_wp2_with fail
  refine HI.out.mono ?_
  rintro e w1 ⟨⟨i, rfl, h1, h2⟩, hb⟩
  have HB := Lib.hid hb
  clear hb
  cases hk : xs.all (ownOk n l s)
  · have h3 := h2 hk
    have HK := Lib.hid hk
    clear h1 h2 hk
    go_wp2
    go_ret
    exact ⟨by rw [HK.out]; rfl, HB.out⟩
  · obtain rfl := h1 hk
    have HK := Lib.hid hk
    clear h1 h2 hk
    go_wp2
    go_ret
    exact ⟨by rw [HK.out]; rfl, HB.out⟩
/-- May a way be asked for? -/
def askedOk (n l s : Int) (xs : List Ow) (x : Sk) : Bool :=
  shapeOk n l s && nodeOk n x.origin && hopOk x.hop && decide ((xs.length : Int) = n) && xs.all (ownOk n l s)
theorem askedO_any (n l s : Int) (v : Value) (xs : List Ow) (x : Sk) (w : World) (h : Owns w v xs) :
    Calls Try.prog 30 #[shapeV n l s, v, x.val] w fun e w' => e = .returned (.bool (askedOk n l s xs x)) ∧ Below w.heap.size w w' := by
  have HA := Lib.hid (there1_any n l s x.origin)
  have HB := Lib.hid (fun w => hop_any x.hop w)
  have HC := Lib.hid (fun Sb w h hP => containsO_any n l s Sb v xs w h hP)
  have HO := Lib.hid h
  obtain ⟨ao, cp, rfl, hl, -⟩ := h
  obtain ⟨has, ⟨k, h⟩, o, c⟩ := x
  have HR : Hid (askedOk n l s xs ⟨has, ⟨k, h⟩, o, c⟩ = (shapeOk n l s && nodeOk n o && hopOk c && decide ((xs.length : Int) = n) && xs.all (ownOk n l s))) := rfl
  generalize askedOk n l s xs ⟨has, ⟨k, h⟩, o, c⟩ = r at *
  simp only [Sk.val, shapeV] at *
  generalize (shapeOk n l s && nodeOk n o) = a at *
  generalize hopOk c = b at *
  generalize xs.all (ownOk n l s) = d at *
  cases a
  · have HR2 : Hid (r = false) := Lib.hid (by rw [HR.out]; rfl)
    clear HR
    go_enter Try.func30, Try.ntmps30
    go_wp2_with fail
    refine (HA.out _ _ (ints_new _ _ _ (by simp))).mono ?_
    rintro e w1 ⟨rfl, hb⟩
    have HBz := Lib.hid ((((below_new _).alloc (by simp) _).alloc (by simp; omega) _).trans (hb.mono (by simp; omega)))
    clear hb
    go_wp2
    go_ret
    exact ⟨by rw [HR2.out]; rfl, HBz.out⟩
  · cases b
    · have HR2 : Hid (r = false) := Lib.hid (by rw [HR.out]; rfl)
      clear HR
      go_enter Try.func30, Try.ntmps30
      go_wp2_with fail
      refine (HA.out _ _ (ints_new _ _ _ (by simp))).mono ?_
      rintro e w1 ⟨rfl, hb⟩
      have Q : Hid (w1.heap[w.heap.size + 1]? = some (.cells #[.bool has, .int .i64 k, .int .i64 h, .int .i64 o, .int .i64 c] 27)) := heap_call hb (heap_old (heap_new (by simp)))
      have q4 : w1.cell? ⟨w.heap.size + 1, 4, none⟩ = some (.int .i64 c) := cell_of Q.out 4
      have HBz := Lib.hid ((((below_new _).alloc (by simp) _).alloc (by simp; omega) _).trans (hb.mono (by simp; omega)))
      clear hb
      go_wp2_with fail
      refine (HB.out _).mono ?_
      rintro e w2 ⟨rfl, rfl⟩
      go_wp2
      go_ret
      exact ⟨by rw [HR2.out]; rfl, HBz.out⟩
    · by_cases hn : (xs.length : Int) = n
      · have HR2 : Hid (r = d) := Lib.hid (by rw [HR.out]; simp [hn])
        have e1 : ((xs.length : Int) == n) = true := by simpa using hn
        have HN := Lib.hid hn
        clear HR hn
        go_enter Try.func30, Try.ntmps30
        go_wp2_with fail
        refine (HA.out _ _ (ints_new _ _ _ (by simp))).mono ?_
        rintro e w1 ⟨rfl, hb⟩
        have P := Lib.hid (heap_call hb (heap_old (heap_old (heap_new (W := w) rfl))))
        have Q : Hid (w1.heap[w.heap.size + 1]? = some (.cells #[.bool has, .int .i64 k, .int .i64 h, .int .i64 o, .int .i64 c] 27)) := heap_call hb (heap_old (heap_new (by simp)))
        have q4 : w1.cell? ⟨w.heap.size + 1, 4, none⟩ = some (.int .i64 c) := cell_of Q.out 4
        have p0 : w1.cell? ⟨w.heap.size, 0, none⟩ = some (.int .i64 n) := cell_of P.out 0
        have HBz := Lib.hid ((((below_new _).alloc (by simp) _).alloc (by simp; omega) _).trans (hb.mono (by simp; omega)))
        clear hb
        go_wp2_with fail
        refine (HB.out _).mono ?_
        rintro e w2 ⟨rfl, rfl⟩
        go_wp2_with fail
        refine (HC.out _ _ (HO.out.below HBz.out (Nat.le_refl _)) P.out).mono ?_
        rintro e w3 ⟨rfl, hb⟩
        have HB3 := Lib.hid (HBz.out.trans (hb.mono HBz.out.size))
        clear hb q4 p0
        cases d
        all_goals
          go_wp2
          go_ret
          exact ⟨by rw [HR2.out]; rfl, HB3.out⟩
      · have HR2 : Hid (r = false) := Lib.hid (by rw [HR.out]; simp [hn])
        have e1 : ((xs.length : Int) == n) = false := by simpa using hn
        clear HR hn
        go_enter Try.func30, Try.ntmps30
        go_wp2_with fail
        refine (HA.out _ _ (ints_new _ _ _ (by simp))).mono ?_
        rintro e w1 ⟨rfl, hb⟩
        have P := Lib.hid (heap_call hb (heap_old (heap_old (heap_new (W := w) rfl))))
        have Q : Hid (w1.heap[w.heap.size + 1]? = some (.cells #[.bool has, .int .i64 k, .int .i64 h, .int .i64 o, .int .i64 c] 27)) := heap_call hb (heap_old (heap_new (by simp)))
        have q4 : w1.cell? ⟨w.heap.size + 1, 4, none⟩ = some (.int .i64 c) := cell_of Q.out 4
        have p0 : w1.cell? ⟨w.heap.size, 0, none⟩ = some (.int .i64 n) := cell_of P.out 0
        have HBz := Lib.hid ((((below_new _).alloc (by simp) _).alloc (by simp; omega) _).trans (hb.mono (by simp; omega)))
        clear hb
        go_wp2_with fail
        refine (HB.out _).mono ?_
        rintro e w2 ⟨rfl, rfl⟩
        go_wp2
        go_ret
        exact ⟨by rw [HR2.out]; rfl, HBz.out⟩
end Go.Proofs.Ytoanpfbdhkgncaa
