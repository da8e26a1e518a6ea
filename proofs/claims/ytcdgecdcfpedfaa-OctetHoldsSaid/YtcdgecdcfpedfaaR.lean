/-
  PROVED: The walk of the law OctetListed: it returns true and leaves what was there as it was. CONDITIONS: the slice came in; the bound is an int.
-/
import Derived.Test.YtcdgecdcfpedfaaQ
namespace Go.Proofs.Ytcdgecdcfpedfaa
open Go.RowKit Oc
set_option maxRecDepth 100000 in
set_option maxHeartbeats 1000000 in
theorem listed_law (a : Option Addr) (len cap : Nat) (zs : List Int) (most : Int) (w : World) (h : CameIn w a len cap zs) (hm0 : -9223372036854775808 ≤ most) (hm1 : most ≤ 9223372036854775807) :
    Calls Try.prog 7 #[.slice a len cap, .int .i64 most] w fun e w' => e = .returned (.bool true) ∧ Below w.heap.size w w' := by
  obtain ⟨hz, hn, hlc, hc⟩ := h
  have HZ := Lib.hid hz
  have HN := Lib.hid hn
  have HL := Lib.hid hz.1
  have HM0 := Lib.hid hm0
  have HM1 := Lib.hid hm1
  clear hz hn hm0 hm1
  by_cases hl : (2000 : Int) < (len : Int)
  · go_enter Try.func7, Try.ntmps7
    go_wp2_with fail
    refine (works_any _).mono ?_
    rintro e w1 ⟨rfl, hb⟩
    have HB := Lib.hid hb
    clear hb
    go_wp2
    go_ret
    exact ⟨rfl, HB.out⟩
  · go_enter Try.func7, Try.ntmps7
    go_wp2_with fail
    refine (lent_any a len cap zs _ HZ.out HN.out hlc (by omega)).mono ?_
    rintro e w1 ⟨g, cp, rfl, ho1, hb1, hcp, hcm⟩
    have HB1 := Lib.hid hb1
    have HC1 : Hid (Bytes w1 (some ⟨g, 0, none⟩) zs.length zs) := ⟨rfl, HZ.out.2.1, fun _ => ⟨g, 0, rfl, fun i hi => by
      rw [Nat.zero_add, ho1.cellAt i (by omega)]
      simp [List.getElem?_append, hi, List.getD]⟩⟩
    clear hb1 ho1
    rw [HL.out] at hcp
    have HC2 : Hid (Bytes w1 (some ⟨g, 0, none⟩) len zs) := by rw [← HL.out]; exact HC1.out
    go_wp2_with fail
    rw [HL.out]
    refine (readList_any _ len cp zs most _ HC2.out HM0.out HM1.out (by omega) hcm (by omega)).mono ?_
    rintro e w2 ⟨v2, rfl, hb2, ho2, hnil2⟩
    have HO2 := Lib.hid (Texts.of_own ho2)
    generalize hr : rdList zs most = r at HO2 ⊢
    obtain ⟨l, k, err⟩ := r
    have HR := Lib.hid hr
    have HB2 := Lib.hid (HB1.out.trans (hb2.mono HB1.out.size))
    clear hr hb2 ho2 hnil2
    go_wp2_with fail
    refine (refReadList_any a len cap zs most _ (HZ.out.below HB2.out (Nat.le_refl _)) HM0.out HM1.out hlc hc (by omega)).mono ?_
    rintro e w3 ⟨v3, he, hb3, ho3, hnil3⟩
    rw [HR.out] at he ho3
    subst he
    have HO3 := Lib.hid (Texts.of_own ho3)
    have HO23 := Lib.hid (HO2.out.below hb3)
    have HB3 := Lib.hid (HB2.out.trans (hb3.mono HB2.out.size))
    clear hb3 ho3 hnil3
    go_wp2_with fail
    refine (same_yes _ _ l _ HO23.out HO3.out).mono ?_
    rintro e w4 ⟨rfl, hb4⟩
    have HB4 := Lib.hid (HB3.out.trans (hb4.mono HB3.out.size))
    clear hb4
    go_wp2_with (first | (go_at_call 17; refine (num_any _ _).mono ?_; rintro e w' ⟨rfl, rfl⟩) | fail)
    refine (works_any _).mono ?_
    rintro e w6 ⟨rfl, hb6⟩
    go_wp2
    go_ret
    exact ⟨rfl, HB4.out.trans (hb6.mono HB4.out.size)⟩
end Go.Proofs.Ytcdgecdcfpedfaa
