/-
  PROVED: The walk of the law OctetReads: it returns true and leaves what was there as it was. CONDITIONS: the slice came in.
-/
import Derived.Test.YtcdgecdcfpedfaaO
namespace Go.Proofs.Ytcdgecdcfpedfaa
open Go.RowKit Oc
/-- A slice of bytes that came in: it is nil; or it leads to a row of 'cap' cells. -/
def CameIn (w : World) (a : Option Addr) (len cap : Nat) (zs : List Int) : Prop := Bytes w a len zs ∧ (a = none → cap = 0) ∧ len ≤ cap ∧ cap ≤ 9223372036854775807

theorem CameIn.of_row {w : World} {a : Option Addr} {len cap : Nat} {zs : List Int}
    (h : (a = none ∧ len = 0 ∧ cap = 0 ∧ zs = []) ∨ ∃ x, a = some x ∧ len ≤ cap ∧ cap ≤ maxLen ∧ zs.length = cap ∧ (∀ i, i < zs.length → w.cell? (x.add i) = some (.int .u8 (zs.getD i 0))) ∧ ∀ n ∈ zs, (Lit.int .u8 n).wf = true) :
    CameIn w a len cap (zs.take len) := by
  rcases h with ⟨rfl, rfl, rfl, rfl⟩ | ⟨x, rfl, hl, hm, hz, hc, hw⟩
  · exact ⟨⟨rfl, by simp, fun h => absurd h (by omega)⟩, fun _ => rfl, Nat.le_refl _, by omega⟩
  · refine ⟨⟨by simp; omega, fun y hy => ?_, fun h0 => ?_⟩, fun h => by (cases h), hl, by unfold maxLen at hm; omega⟩
    · have := hw y (List.mem_of_mem_take hy)
      have hmin : IntKind.u8.min = 0 := rfl
      have hmax : IntKind.u8.max = 255 := rfl
      simp only [Lit.wf, Bool.and_eq_true, decide_eq_true_eq] at this
      omega
    · obtain ⟨b, off, spot⟩ := x
      have h1 := hc 0 (by omega)
      have hspot : spot = none := by simpa [Addr.add] using World.cell?_spot h1
      subst hspot
      refine ⟨b, off, rfl, fun i hi => ?_⟩
      have h2 := hc i (by omega)
      rw [show (⟨b, off, none⟩ : Addr).add i = ⟨b, off + i, none⟩ by simp [Addr.add]] at h2
      rw [h2]
      simp [List.getD, hi]

set_option maxRecDepth 100000 in
set_option maxHeartbeats 1000000 in
theorem reads_law (a : Option Addr) (len cap : Nat) (zs : List Int) (w : World) (h : CameIn w a len cap zs) :
    Calls Try.prog 4 #[.slice a len cap] w fun e w' => e = .returned (.bool true) ∧ Below w.heap.size w w' := by
  obtain ⟨hz, hn, hlc, hc⟩ := h
  have HZ := Lib.hid hz
  have HN := Lib.hid hn
  have HL := Lib.hid hz.1
  clear hz hn
  by_cases hl : (300 : Int) < (len : Int)
  · go_enter Try.func4, Try.ntmps4
    go_wp2_with fail
    refine (works_any _).mono ?_
    rintro e w1 ⟨rfl, hb⟩
    have HB := Lib.hid hb
    clear hb
    go_wp2
    go_ret
    exact ⟨rfl, HB.out⟩
  · go_enter Try.func4, Try.ntmps4
    go_wp2_with fail
    refine (lent_any a len cap zs _ HZ.out HN.out hlc (by omega)).mono ?_
    rintro e w1 ⟨g, cp, rfl, ho1, hb1, hcp, hcm⟩
    have HB1 := Lib.hid hb1
    have HO1 := Lib.hid ho1
    have HC1 : Hid (Bytes w1 (some ⟨g, 0, none⟩) zs.length zs) := ⟨rfl, HZ.out.2.1, fun _ => ⟨g, 0, rfl, fun i hi => by
      rw [Nat.zero_add, HO1.out.cellAt i (by omega)]
      simp [List.getElem?_append, hi, List.getD]⟩⟩
    have hgl : g < w1.heap.size := (HO1.out.lt g rfl).2
    have HG := Lib.hid hgl
    clear hb1 ho1 hgl
    have HE : Hid (zs.length = len) := HL.out
    rw [HL.out] at hcp
    have HC2 : Hid (Bytes w1 (some ⟨g, 0, none⟩) len zs) := by rw [← HL.out]; exact HC1.out
    go_wp2_with fail
    rw [HL.out]
    refine (readNumber_any _ len cp zs _ HC2.out (by omega) hcm).mono ?_
    rintro e w2 ⟨rfl, hb2⟩
    have HS := Lib.hid (rd_fits zs 0 0 HZ.out.2.1 (by omega) (by decide))
    generalize hr : rd zs 0 0 = r
    obtain ⟨n, k, err⟩ := r
    have HR := Lib.hid hr
    have HB2 := Lib.hid (hb2)
    clear hr hb2
    go_wp2_with fail
    refine (readSigned_any _ len cp zs _ (HC2.out.below HB2.out (Nat.le_refl _)) (by omega) hcm).mono ?_
    rintro e w3 ⟨he, hb3⟩
    rw [HR.out] at he
    subst he
    have HB3 := Lib.hid (HB2.out.trans (hb3.mono HB2.out.size))
    clear hb3
    go_wp2_with fail
    have HT3 := Lib.hid (HB1.out.trans (HB3.out.mono HB1.out.size))
    refine (refReads_number a len cap zs _ (HZ.out.below HT3.out (Nat.le_refl _)) (by omega)).mono ?_
    rintro e w4 ⟨he, nq, rfl⟩
    rw [HR.out] at he
    subst he
    go_wp2_with fail
    refine (refReadSigned_any a len cap zs (w3.drewN nq) ((HZ.out.below HT3.out (Nat.le_refl _)).drawn nq) (by omega)).mono ?_
    rintro e w5 ⟨he, hb5⟩
    rw [HR.out] at he
    subst he
    have HB5 : Hid (Below w1.heap.size w1 w5) := HB3.out.trans ⟨hb5.os, hb5.tape, hb5.output, hb5.size, fun i hi => hb5.block i (Nat.lt_of_lt_of_le hi HB3.out.size)⟩
    have HT5 := Lib.hid (HB1.out.trans (HB5.out.mono HB1.out.size))
    clear hb5
    have HO5 := Lib.hid (row_kept HO1.out HB5.out)
    have hc77 : w5.cell? ⟨g, len, none⟩ = some (.int .u8 77) := by
      have := HO5.out.cellAt len (by have := HL.out; omega)
      rw [this]
      have h2 := HL.out
      simp [← h2]
    have hcs : (convert 23 9 (.slice (some ⟨g, 0, none⟩) len cp)).run Try.prog w5 = .ok (.string (strOfNums zs)) w5 :=
      run_convert_bytes_arg (P := Try.prog) w5 23 5 Try.underlying23 Try.underlying5 g 0 len cp zs HL.out (fun i hi => by
        obtain ⟨b', o', ha, hcell⟩ := (HC2.out.below HB5.out (Nat.le_refl _)).2.2 (by omega)
        cases ha
        exact hcell i hi) 9 Try.underlying9
    have hcb : (convert 23 9 (.slice a len cap)).run Try.prog w5 = .ok (.string (strOfNums zs)) w5 := by
      by_cases h0 : len = 0
      · have hz0 : zs = [] := List.length_eq_zero_iff.1 (by rw [HL.out, h0])
        subst hz0 h0
        cases a with
        | none => exact run_convert_bytes_nil w5 23 5 Try.underlying23 Try.underlying5 0 cap 9 Try.underlying9
        | some x =>
          rw [run_convert_bytes_string w5 23 9 5 (some x) 0 cap Try.underlying23 Try.underlying5 Try.underlying9, run_bytesToString w5 x 0 cap [] (by rfl)]
          rfl
      · obtain ⟨b', o', rfl, hcell⟩ := (HZ.out.below HT5.out (Nat.le_refl _)).2.2 (by omega)
        exact run_convert_bytes_arg (P := Try.prog) w5 23 5 Try.underlying23 Try.underlying5 b' o' len cap zs HL.out hcell 9 Try.underlying9
    have hcp1 : len + 1 ≤ cp := hcp
    go_wp2_with (first | (go_at_call 17; refine (num_any _ _).mono ?_; rintro e w' ⟨rfl, rfl⟩) | fail)
    refine (works_any _).mono ?_
    rintro e w6 ⟨rfl, hb6⟩
    go_wp2
    go_ret
    exact ⟨rfl, HT5.out.trans (hb6.mono HT5.out.size)⟩
end Go.Proofs.Ytcdgecdcfpedfaa
