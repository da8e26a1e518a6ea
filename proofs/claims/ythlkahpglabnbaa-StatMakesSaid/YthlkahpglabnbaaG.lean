/-
  PROVED: The contracts of More, the program's and the reference's, and of the reference's List. CONDITIONS: the statuses lie in the world.
-/
import Derived.Test.YthlkahpglabnbaaF
namespace Go.Proofs.Ythlkahpglabnbaa
open Go.RowKit
set_option maxRecDepth 100000
set_option maxHeartbeats 1000000
/-- Does one say more than another one? -/
def St.more (a b : St) : Bool := decide (b.over < a.over) || (decide (a.over = b.over) && a.pend && !b.pend)
theorem num_any (k : Int) (w : World) : Calls Try.prog 12 #[.int .i64 k] w fun e w' => e = .returned (.int .i64 k) ∧ w' = w := by
  go_enter Try.func12, Try.ntmps12
  go_wp2
  go_ret
  exact ⟨rfl, rfl⟩
theorem moreU_any (a b : St) (w : World) : Calls Try.prog 21 #[a.val, b.val] w fun e w' => e = .returned (.bool (a.more b)) ∧ Below w.heap.size w w' := by
  obtain ⟨o, p, m, r⟩ := a
  obtain ⟨o', p', m', r'⟩ := b
  simp only [St.val]
  by_cases h1 : o' < o
  · have e : St.more ⟨o, p, m, r⟩ ⟨o', p', m', r'⟩ = true := by simp [St.more, h1]
    rw [e]; clear e
    go_enter Try.func21, Try.ntmps21
    go_wp2
    go_ret
    exact ⟨by first | rfl | (simp_all; done) | (simp_all; omega), ((below_new _).alloc (by simp) _)⟩
  · by_cases h2 : o = o'
    · subst h2
      have e : St.more ⟨o, p, m, r⟩ ⟨o, p', m', r'⟩ = (p && !p') := by simp [St.more]
      rw [e]; clear e
      cases p <;> cases p'
      all_goals
        go_enter Try.func21, Try.ntmps21
        go_wp2
        go_ret
        exact ⟨by first | rfl | (simp_all; done) | (simp_all; omega), ((below_new _).alloc (by simp) _)⟩
    · have e : St.more ⟨o, p, m, r⟩ ⟨o', p', m', r'⟩ = false := by simp [St.more, h1, h2]
      rw [e]; clear e
      go_enter Try.func21, Try.ntmps21
      go_wp2
      go_ret
      exact ⟨by first | rfl | (simp_all; done) | (simp_all; omega), ((below_new _).alloc (by simp) _)⟩
theorem more_any (a b : St) (w : World) : Calls Try.prog 16 #[a.val, b.val] w fun e w' => e = .returned (.bool (a.more b)) ∧ Below w.heap.size w w' := by
  have HM := Lib.hid (moreU_any a b)
  generalize a.more b = c at *
  obtain ⟨o, p, m, r⟩ := a
  obtain ⟨o', p', m', r'⟩ := b
  simp only [St.val] at *
  go_enter Try.func16, Try.ntmps16
  go_wp2_with fail
  refine (HM.out _).mono ?_
  rintro e w1 ⟨rfl, hb⟩
  have HB := Lib.hid (((below_new _).alloc (by simp) _).trans (hb.mono (by simp; omega)))
  clear hb
  go_wp2
  go_ret
  exact ⟨rfl, HB.out⟩
theorem refMore_any (a b : St) (w : World) : Calls Try.prog 17 #[a.val, b.val] w fun e w' => e = .returned (.bool (a.more b)) ∧ Below w.heap.size w w' := by
  obtain ⟨o, p, m, r⟩ := a
  obtain ⟨o', p', m', r'⟩ := b
  simp only [St.val]
  by_cases h1 : o' < o
  · have e : St.more ⟨o, p, m, r⟩ ⟨o', p', m', r'⟩ = true := by simp [St.more, h1]
    rw [e]; clear e
    go_enter Try.func17, Try.ntmps17
    go_wp2
    go_ret
    exact ⟨by first | rfl | (simp_all; done) | (simp_all; omega), ((below_new _).alloc (by simp) _)⟩
  · by_cases h2 : o = o'
    · subst h2
      have e : St.more ⟨o, p, m, r⟩ ⟨o, p', m', r'⟩ = (p && !p') := by simp [St.more]
      rw [e]; clear e
      cases p <;> cases p'
      all_goals
        go_enter Try.func17, Try.ntmps17
        go_wp2
        go_ret
        exact ⟨by first | rfl | (simp_all; done) | (simp_all; omega), ((below_new _).alloc (by simp) _)⟩
    · have e : St.more ⟨o, p, m, r⟩ ⟨o', p', m', r'⟩ = false := by simp [St.more, h1, h2]
      rw [e]; clear e
      go_enter Try.func17, Try.ntmps17
      go_wp2
      go_ret
      exact ⟨by first | rfl | (simp_all; done) | (simp_all; omega), ((below_new _).alloc (by simp) _)⟩
theorem refList_any (n l s : Int) (v : Value) (xs : List St) (w : World) (h : Stats w v xs) :
    Calls Try.prog 24 #[shapeV n l s, v] w fun e w' => e = .returned (.bool (listOk n l s xs)) ∧ Below w.heap.size w w' := by
  have HS := Lib.hid (refShape_any n l s)
  obtain ⟨ao, cp, rfl, hl, hc⟩ := h
  have HC := Lib.hid hc
  clear hc
  unfold listOk
  cases hok : shapeOk n l s
  · rw [hok] at HS
    clear hok
    unfold shapeV at *
    go_enter Try.func24, Try.ntmps24
    go_wp2_with fail
    refine (HS.out _).mono ?_
    rintro e w1 ⟨rfl, hb⟩
    have HB := Lib.hid ((below_new _).trans (hb.mono (by simp)))
    clear hb
    go_wp2
    go_ret
    exact ⟨rfl, HB.out⟩
  · have hsp := shape_parts hok
    obtain ⟨hm0, hm1⟩ := many_le hsp
    have hsn : ((siteNo n l s : Nat) : Int) = n * s := by simp only [siteNo, hok, if_true]; omega
    rw [hok] at HS
    generalize siteNo n l s = c at *
    clear hok hsp
    unfold shapeV at *
    by_cases hlen : xs.length = c
    · subst hlen
      go_enter Try.func24, Try.ntmps24
      go_wp2_with fail
      refine (HS.out _).mono ?_
      rintro e w1 ⟨rfl, hb⟩
      have hsz := hb.size
      simp at hsz
      have hf0 := (hb.cell (p := ⟨w.heap.size, 0, none⟩) (by simp)).trans (show _ = some (.int .i64 n) by simp)
      have hf2 := (hb.cell (p := ⟨w.heap.size, 2, none⟩) (by simp)).trans (show _ = some (.int .i64 s) by simp)
      have HB := Lib.hid ((below_new _).trans (hb.mono (by simp)))
      clear hb
      go_wp2
      go_loopw [5] (fun i wr => ∃ j : Nat, i = .int .i64 j ∧ j ≤ xs.length ∧ Hid ((xs.take j).all St.ok = true) ∧ Hid (Below w.heap.size w wr)) (fun i _ => xs.length - (intOf i).toNat)
      case atStart => exact ⟨0, rfl, by omega, rfl, HB⟩
      case round =>
        obtain ⟨j, rfl, hj, hall, hw⟩ := hrel
        by_cases hlt : j < xs.length
        · obtain ⟨b, off, rfl, hcell⟩ := HC.out (by omega)
          obtain ⟨c0, c1, c2, c3⟩ := (hcell j hlt).below hw.out (Nat.le_refl _)
          generalize hx : xs[j] = x at c0 c1 c2 c3
          have HX := Lib.hid hx
          have HR := Lib.hid (refRight_any x)
          clear hcell hx
          go_wp2_with fail
          refine (HR.out _).mono ?_
          rintro e w2 ⟨rfl, hb2⟩
          have HB2 := Lib.hid (hw.out.trans (hb2.mono hw.out.size))
          clear hb2 c0 c1 c2 c3
          cases hk : x.ok
          · have HK := Lib.hid hk
            clear hk
            go_wp2
            go_ret
            refine ⟨?_, HB2.out⟩
            have h1 : xs.all St.ok = false := by
              refine Bool.eq_false_iff.2 fun h => ?_
              have h2 := List.all_eq_true.1 h xs[j] (List.getElem_mem hlt)
              rw [HX.out, HK.out] at h2
              cases h2
            rw [h1]; simp
          · have HK := Lib.hid hk
            clear hk
            go_wp2
            go_roundw
            case rel => go_light; exact ⟨j + 1, by go_num, by omega, by show _ = _; rw [List.take_succ_eq_append_getElem hlt, List.all_append, hall.out, HX.out]; simp [HK.out], HB2⟩
            case measure => go_light; simp [intOf]; omega
        · obtain rfl : j = xs.length := by omega
          go_wp2
          go_ret
          refine ⟨?_, hw.out⟩
          have h1 := hall.out
          rw [List.take_length] at h1
          rw [h1]; simp
    · have hne : (xs.length : Int) ≠ n * s := by omega
      go_enter Try.func24, Try.ntmps24
      go_wp2_with fail
      refine (HS.out _).mono ?_
      rintro e w1 ⟨rfl, hb⟩
      have hf0 := (hb.cell (p := ⟨w.heap.size, 0, none⟩) (by simp)).trans (show _ = some (.int .i64 n) by simp)
      have hf2 := (hb.cell (p := ⟨w.heap.size, 2, none⟩) (by simp)).trans (show _ = some (.int .i64 s) by simp)
      have HB := Lib.hid ((below_new _).trans (hb.mono (by simp)))
      clear hb
      go_wp2
      go_ret
      exact ⟨by simp [hlen], HB.out⟩
end Go.Proofs.Ythlkahpglabnbaa
