/-
  PROVED: The contracts of stat.Check and of right, which tells whether a list is one status for each site. CONDITIONS: the statuses lie in the world.
-/
import Derived.Test.YthlkahpglabnbaaD
namespace Go.Proofs.Ythlkahpglabnbaa
open Go.RowKit
set_option maxRecDepth 100000
set_option maxHeartbeats 1000000
theorem may_any (x : St) (w : World) : Calls Try.prog 26 #[x.val] w fun e w' => e = .returned (.bool x.ok) ∧ Below w.heap.size w w' := by
  have hb := bounds_any x
  cases hp : x.pend
  · rw [hp] at hb
    refine may_walk x x.over 0 1099511627776 x.mode 0 0 x.prio 0 0 _ ?_ w hb
    simp only [St.ok, hp]
    rw [Bool.eq_iff_iff]
    simp
    try omega
  · rw [hp] at hb
    refine may_walk x x.over 0 1099511627775 x.mode 1 5 x.prio 0 3 _ ?_ w hb
    simp only [St.ok, hp]
    rw [Bool.eq_iff_iff]
    simp
    try omega
def St.no (x : St) : Int := if x.ok then 0 else 2
theorem checkSt_any (x : St) (w : World) : Calls Try.prog 14 #[x.val] w fun e w' => e = .returned (.int .i64 x.no) ∧ Below w.heap.size w w' := by
  have hm := may_any x
  unfold St.no
  cases hk : x.ok
  all_goals
    rw [hk] at hm
    have HM := Lib.hid hm
    clear hm hk
    obtain ⟨o, p, m, r⟩ := x
    simp only [St.val] at *
    go_enter Try.func14, Try.ntmps14
    go_wp2_with fail
    refine (HM.out _).mono ?_
    rintro e w1 ⟨rfl, hb⟩
    have HB := Lib.hid ((below_new _).trans (hb.mono (by simp)))
    clear hb
    go_wp2
    go_ret
    exact ⟨rfl, HB.out⟩
theorem bad_any (x : St) (w : World) : Calls Try.prog 30 #[x.val] w fun e w' => e = .returned (.bool (!x.ok)) ∧ Below w.heap.size w w' := by
  have hm := checkSt_any x
  unfold St.no at hm
  cases hk : x.ok
  all_goals
    rw [hk] at hm
    have HM := Lib.hid hm
    clear hm hk
    obtain ⟨o, p, m, r⟩ := x
    simp only [St.val] at *
    go_enter Try.func30, Try.ntmps30
    go_wp2_with fail
    refine (HM.out _).mono ?_
    rintro e w1 ⟨rfl, hb⟩
    have HB := Lib.hid ((below_new _).trans (hb.mono (by simp)))
    clear hb
    go_wp2
    go_ret
    exact ⟨rfl, HB.out⟩
/-- The statuses that a slice leads to. -/
def Cell4 (w : World) (b o : Nat) (x : St) : Prop :=
  w.cell? ⟨b, o, none⟩ = some (.int .i64 x.over) ∧ w.cell? ⟨b, o + 1, none⟩ = some (.bool x.pend) ∧ w.cell? ⟨b, o + 2, none⟩ = some (.int .i64 x.mode) ∧ w.cell? ⟨b, o + 3, none⟩ = some (.int .i64 x.prio)
def Stats (w : World) (v : Value) (l : List St) : Prop :=
  ∃ ao cp, v = .slice ao l.length cp ∧ l.length ≤ 9223372036854775807 ∧ (0 < l.length → ∃ b off, ao = some ⟨b, off, none⟩ ∧ ∀ i (h : i < l.length), Cell4 w b (off + i * 4) l[i])
theorem Cell4.below {w w' : World} {B b o : Nat} {x : St} (h : Cell4 w b o x) (hb : Below B w w') (hB : w.heap.size ≤ B) : Cell4 w' b o x := by
  obtain ⟨h0, h1, h2, h3⟩ := h
  have hl : b < B := Nat.lt_of_lt_of_le (World.block_lt_of_cell? w _ h0) hB
  exact ⟨(hb.cell (p := ⟨b, _, none⟩) hl).trans h0, (hb.cell (p := ⟨b, _, none⟩) hl).trans h1, (hb.cell (p := ⟨b, _, none⟩) hl).trans h2, (hb.cell (p := ⟨b, _, none⟩) hl).trans h3⟩
theorem Stats.below {w w' : World} {v : Value} {l : List St} {B : Nat} (h : Stats w v l) (hb : Below B w w') (hB : w.heap.size ≤ B) : Stats w' v l := by
  obtain ⟨ao, cp, hv, hl, hc⟩ := h
  refine ⟨ao, cp, hv, hl, fun h0 => ?_⟩
  obtain ⟨b, off, ha, hc⟩ := hc h0
  exact ⟨b, off, ha, fun i hi => (hc i hi).below hb hB⟩
/-- The first status that may not be. -/
theorem index_any (v : Value) (l : List St) (w : World) (h : Stats w v l) :
    Calls Try.prog 34 #[v, .func (.func 30) #[] #[]] w fun e w' => (∃ i : Int, e = .returned (.int .i64 i) ∧ (l.all St.ok = true → i = -1) ∧ (l.all St.ok = false → 0 ≤ i)) ∧ Below w.heap.size w w' := by
  obtain ⟨ao, cp, rfl, hl, hc⟩ := h
  have HC := Lib.hid hc
  clear hc
  go_enter Try.func34, Try.ntmps34
  go_wp2
  go_loopw [5, 8] (fun _ i wr => ∃ j : Nat, i = .int .i64 j ∧ j ≤ l.length ∧ Hid ((l.take j).all St.ok = true) ∧ Hid (Below w.heap.size w wr)) (fun _ i _ => l.length - (intOf i).toNat)
  case atStart => exact ⟨0, rfl, by omega, rfl, Below.refl _ _⟩
  case round =>
    obtain ⟨j, rfl, hj, hall, hw⟩ := hrel
    by_cases hlt : j < l.length
    · obtain ⟨b, off, rfl, hcell⟩ := HC.out (by omega)
      obtain ⟨c0, c1, c2, c3⟩ := (hcell j hlt).below hw.out (Nat.le_refl _)
      generalize hx : l[j] = x at c0 c1 c2 c3
      have HX := Lib.hid hx
      have hbad := bad_any x
      have HBAD := Lib.hid hbad
      clear hcell hx hbad
      go_wp2_with fail
      refine (HBAD.out _).mono ?_
      rintro e w1 ⟨rfl, hb1⟩
      have HB1 := Lib.hid (hw.out.trans (hb1.mono hw.out.size))
      clear hb1 c0 c1 c2 c3
      cases hk : x.ok
      · have HK := Lib.hid hk
        clear hk
        go_wp2
        go_ret
        refine ⟨⟨j, rfl, fun h => ?_, fun _ => by omega⟩, HB1.out⟩
        have h1 := List.all_eq_true.1 h l[j] (List.getElem_mem hlt)
        rw [HX.out, HK.out] at h1
        cases h1
      · have HK := Lib.hid hk
        clear hk
        go_wp2
        go_roundw
        case rel => go_light; exact ⟨j + 1, by go_num, by omega, by show _ = _; rw [List.take_succ_eq_append_getElem hlt, List.all_append, hall.out, HX.out]; simp [HK.out], HB1⟩
        case measure => go_light; simp [intOf]; omega
    · obtain rfl : j = l.length := by omega
      go_wp2
      go_ret
      refine ⟨⟨-1, rfl, fun _ => rfl, fun h => ?_⟩, hw.out⟩
      have h1 := hall.out
      rw [List.take_length, h] at h1
      cases h1
theorem contains_any (v : Value) (l : List St) (w : World) (h : Stats w v l) :
    Calls Try.prog 29 #[v, .func (.func 30) #[] #[]] w fun e w' => e = .returned (.bool (!l.all St.ok)) ∧ Below w.heap.size w w' := by
  have HI := Lib.hid (index_any v l w h)
  obtain ⟨ao, cp, rfl, hl, -⟩ := h
  go_enter Try.func29, Try.ntmps29
  go_wp2_with fail
  refine HI.out.mono ?_
  rintro e w1 ⟨⟨i, rfl, h1, h2⟩, hb⟩
  have HB := Lib.hid hb
  clear hb
  cases hk : l.all St.ok
  · have h3 := h2 hk
    have HK := Lib.hid hk
    clear h1 h2 hk
    go_wp2
    go_ret
    exact ⟨by rw [HK.out]; rfl, HB.out⟩
  · obtain rfl := h1 hk
    have HK := Lib.hid hk
    clear h1 h2 hk
    go_wp2
    go_ret
    exact ⟨by rw [HK.out]; rfl, HB.out⟩
/-- Is it a list of statuses, one for each site? -/
def listOk (n l s : Int) (xs : List St) : Bool := shapeOk n l s && decide (xs.length = siteNo n l s) && xs.all St.ok
theorem rightL_any (n l s : Int) (v : Value) (xs : List St) (w : World) (h : Stats w v xs) :
    Calls Try.prog 22 #[shapeV n l s, v] w fun e w' => e = .returned (.bool (listOk n l s xs)) ∧ Below w.heap.size w w' := by
  have HS := Lib.hid (sites_any n l s)
  have HC := Lib.hid (fun w h => contains_any v xs w h)
  have HST := Lib.hid h
  obtain ⟨ao, cp, rfl, hl, -⟩ := h
  have hsn := siteNo_le n l s
  unfold listOk shapeNo at *
  generalize siteNo n l s = c at *
  cases hok : shapeOk n l s
  · rw [hok] at HS
    clear hok
    unfold shapeV at *
    go_enter Try.func22, Try.ntmps22
    go_wp2_with fail
    refine (HS.out _).mono ?_
    rintro e w1 ⟨rfl, hb⟩
    have HB := Lib.hid ((below_new _).trans (hb.mono (by simp)))
    clear hb
    go_wp2
    go_ret
    exact ⟨rfl, HB.out⟩
  · rw [hok] at HS
    clear hok
    unfold shapeV at *
    by_cases hlen : xs.length = c
    · subst hlen
      cases hk : xs.all St.ok
      all_goals
        rw [hk] at HC
        clear hk
        go_enter Try.func22, Try.ntmps22
        go_wp2_with fail
        refine (HS.out _).mono ?_
        rintro e w1 ⟨rfl, hb⟩
        have HB := Lib.hid ((below_new _).trans (hb.mono (by simp)))
        clear hb
        go_wp2_with fail
        refine (HC.out _ (HST.out.below HB.out (Nat.le_refl _))).mono ?_
        rintro e w2 ⟨rfl, hb⟩
        have HB2 := Lib.hid (HB.out.trans (hb.mono HB.out.size))
        clear hb
        go_wp2
        go_ret
        exact ⟨by simp, HB2.out⟩
    · go_enter Try.func22, Try.ntmps22
      go_wp2_with fail
      refine (HS.out _).mono ?_
      rintro e w1 ⟨rfl, hb⟩
      have HB := Lib.hid ((below_new _).trans (hb.mono (by simp)))
      clear hb
      go_wp2
      go_ret
      exact ⟨by simp [hlen], HB.out⟩
end Go.Proofs.Ythlkahpglabnbaa
