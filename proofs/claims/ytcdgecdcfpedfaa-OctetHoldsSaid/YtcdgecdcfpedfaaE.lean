/-
  PROVED: Contracts of the reader's text and of ReadText. CONDITIONS: the slice holds bytes.
-/
import Derived.Test.YtcdgecdcfpedfaaD
namespace Go.Proofs.Ytcdgecdcfpedfaa
open Go.RowKit Oc
/-- A text that bytes begin with: its letters, how many bytes it takes, an error's number. -/
def rdText (zs : List Int) : ByteArray × Nat × Int :=
  if (rd zs 0 0).2.2 ≠ 0 then (ByteArray.empty, 0, (rd zs 0 0).2.2)
  else if (rd zs 0 0).2.1 + (rd zs 0 0).1 ≤ zs.length then (strOfNums ((zs.drop (rd zs 0 0).2.1).take (rd zs 0 0).1), (rd zs 0 0).2.1 + (rd zs 0 0).1, 0)
  else (ByteArray.empty, 0, 110)

def TextPost (R : Nat) (a : Option Addr) (len cap p : Nat) (r : ByteArray × Nat × Int) (w : World) (e : Ending) (w' : World) : Prop :=
  e = .returned (.tuple #[.string r.1, .int .i64 r.2.2]) ∧ w.grownBy w' (some R) ∧ ∃ p', p' ≤ len ∧ Stands w' R a len cap p' ∧ (r.2.2 = 0 → p' = p + r.2.1)

theorem Bytes.grown {w w' : World} {a : Option Addr} {len R : Nat} {zs : List Int} (h : Bytes w a len zs) (hg : w.grownBy w' (some R)) (hne : 0 < len → ∀ x, a = some x → x.block ≠ R) : Bytes w' a len zs := by
  obtain ⟨h1, h2, h3⟩ := h
  refine ⟨h1, h2, fun hl => ?_⟩
  obtain ⟨b, off, ha, hc⟩ := h3 hl
  exact ⟨b, off, ha, fun i hi => hg.cell (hc i hi) (by have := hne hl _ ha; simpa using this)⟩
theorem grown_drawn {w w1 : World} {r : Option Nat} (h : w.grownBy w1 r) (n : Nat) : w.grownBy (w1.drewN n) r := ⟨h.os, h.tape, h.output, h.size, h.block⟩
/-- What is left of bytes, from p on. -/
theorem Bytes.slice_cells {w : World} {b off len p n o : Nat} {zs : List Int} (h : Bytes w (some ⟨b, off, none⟩) len zs) (hp : p + n ≤ len) (ho : 0 < n → o = off + p) :
    ∀ i, i < n → w.cell? ⟨b, o + i, none⟩ = some (.int .u8 (((zs.drop p).take n).getD i 0)) := by
  intro i hi
  obtain ⟨h1, h2, h3⟩ := h
  obtain ⟨b', off', ha, hc⟩ := h3 (by omega)
  cases ha
  rw [ho (by omega), Nat.add_assoc, hc (p + i) (by omega)]
  simp [List.getD, hi, List.getElem?_drop]

set_option maxRecDepth 100000 in
set_option maxHeartbeats 400000 in
theorem reads_text (R : Nat) (a : Option Addr) (len cap p : Nat) (zs : List Int) (w : World) (hR : Stands w R a len cap p) (hz : Bytes w a len zs)
    (hne : 0 < len → ∀ x, a = some x → x.block ≠ R) (hp : p ≤ len) (hlc : len ≤ cap) (hc : cap ≤ 9223372036854775807) :
    Calls Try.prog 39 #[.pointer (some ⟨R, 0, none⟩)] w (TextPost R a len cap p (rdText (zs.drop p)) w) := by
  have HR := Lib.hid hR
  have HZ := Lib.hid hz
  have HN := Lib.hid hne
  have HF := Lib.hid (rd_fits (zs.drop p) 0 0 (fun x hx => hz.2.1 x (List.mem_of_mem_drop hx)) (by omega) (by decide))
  clear hR hz hne
  go_enter Try.func39, Try.ntmps39
  go_wp2_with fail
  refine (reads_number R a len cap p zs _ HR.out HZ.out HN.out hp hlc hc).mono ?_
  rintro e w1 ⟨rfl, hg, p1, hp1, hS, hpk⟩
  have hF := HF.out
  generalize hr : rd (zs.drop p) 0 0 = r at hF hpk ⊢
  obtain ⟨n, k, err⟩ := r
  have HR1 := Lib.hid hr
  have HG := Lib.hid hg
  have HS := Lib.hid hS
  clear hg hr hS
  by_cases h0 : err = 0
  · subst h0
    obtain rfl : p1 = p + k := hpk rfl
    have HK : Hid (0 < k) := hF.2.2.2.2 rfl
    have hne : ((0 : Int) != 0) = false := rfl
    have HF1 := Lib.hid hF
    clear hpk hF HF
    obtain ⟨b, off, rfl, hcell⟩ := HZ.out.2.2 (by have := HK.out; omega)
    clear hcell
    have HZ1 := Lib.hid (HZ.out.grown HG.out HN.out)
    go_wp2_with fail
    by_cases hy : (n : Int) + ((p + k : Nat) : Int) ≤ (len : Int)
    · refine (has_yes R _ len cap (p + k) n _ HS.out.bytes HS.out.at_ hp1 (by omega) hy).mono ?_
      rintro e w2 ⟨rfl, nq, rfl⟩
      go_wp2_with fail
      refine (take_st R b off len cap (p + k) n (w1.drewN nq) ⟨HS.out.bytes, HS.out.at_, HS.out.free⟩ (by omega) hlc hc).mono ?_
      rintro e w3 ⟨o, rfl, ho, hg3, hS3⟩
      have hg4 : w.grownBy w3 (some R) := grownBy_trans (grown_drawn HG.out nq) hg3
      have hZ3 := HZ.out.grown hg4 HN.out
      have hcs := run_convert_bytes_arg (P := Try.prog) w3 23 5 Try.underlying23 Try.underlying5 b o n n ((zs.drop (p + k)).take n) (by have := hZ3.1; simp; omega) (hZ3.slice_cells (by omega) ho) 9 Try.underlying9
      have HG4 := Lib.hid hg4
      have HS3 := Lib.hid hS3
      clear hg3 hS3 hg4 hZ3 ho
      have hrt : rdText (zs.drop p) = (strOfNums ((zs.drop (p + k)).take n), k + n, 0) := by
        unfold rdText
        rw [HR1.out]
        have := HZ.out.1
        rw [if_neg (by simp), if_pos (by simp; omega)]
        simp [List.drop_drop]
      have HT := Lib.hid hrt
      clear hrt
      go_wp2
      go_ret2
      refine ⟨by rw [HT.out]; rfl, HG4.out, _, by omega, HS3.out, ?_⟩
      rw [HT.out]; intro _; show p + k + n = p + (k + n); omega
    · refine (has_no R _ len cap (p + k) n _ HS.out.bytes HS.out.at_ hp1 (by omega) hy).mono ?_
      rintro e w2 ⟨rfl, nq, rfl⟩
      have hrt : rdText (zs.drop p) = (ByteArray.empty, 0, 110) := by
        unfold rdText
        rw [HR1.out]
        have := HZ.out.1
        rw [if_neg (by simp), if_neg (by simp; omega)]
      have HT := Lib.hid hrt
      clear hrt
      go_wp2
      go_ret2
      refine ⟨by rw [HT.out]; rfl, grown_drawn HG.out nq, _, hp1, ⟨HS.out.bytes, HS.out.at_, HS.out.free⟩, ?_⟩
      rw [HT.out]; intro h; exact absurd h (by decide)
  · have hne : (err != 0) = true := by simpa using h0
    have hrt : rdText (zs.drop p) = (ByteArray.empty, 0, err) := by
      unfold rdText
      rw [HR1.out, if_pos (by simpa using h0)]
    have HT := Lib.hid hrt
    clear hpk hF hrt
    go_wp2
    go_ret2
    refine ⟨by rw [HT.out]; rfl, HG.out, _, hp1, HS.out, ?_⟩
    rw [HT.out]; intro h; exact absurd h (by simpa using h0)

/-- A text, how many bytes it takes, an error's number. -/
def ReadTextPost (r : ByteArray × Nat × Int) (w : World) (e : Ending) (w' : World) : Prop :=
  e = .returned (.tuple #[.string r.1, .int .i64 r.2.1, .int .i64 r.2.2]) ∧ Below w.heap.size w w'
theorem rdText_no {zs : List Int} (h : (rdText zs).2.2 ≠ 0) : (rdText zs).1 = ByteArray.empty ∧ (rdText zs).2.1 = 0 := by
  unfold rdText at *
  split
  · simp
  · split
    · rename_i h1 h2; rw [if_neg h1, if_pos h2] at h; simp at h
    · simp
set_option maxRecDepth 100000 in
set_option maxHeartbeats 400000 in
theorem read38 (a : Option Addr) (len cap : Nat) (zs : List Int) (w : World) (hz : Bytes w a len zs) (hlc : len ≤ cap) (hc : cap ≤ 9223372036854775807) :
    Calls Try.prog 38 #[.slice a len cap, .func (.func 39) #[] #[]] w (ReadTextPost (rdText zs) w) := by
  have HZ := Lib.hid hz
  have HF := Lib.hid (@rdText_no zs)
  clear hz
  go_enter Try.func38, Try.ntmps38
  go_wp2_with fail
  have HNW := new_stands w a len cap 88
  refine (reads_text w.heap.size a len cap 0 zs _ HNW (HZ.out.below ((Below.refl _ w).alloc (Nat.le_refl _) _) (Nat.le_refl _)) (HZ.out.other (Nat.le_refl _)) (by omega) hlc hc).mono ?_
  rintro e w' ⟨rfl, hg, p', hp', hS, hpk⟩
  have hb := below_of_grown hg
  have hF := HF.out
  rw [show List.drop 0 zs = zs from rfl] at hpk ⊢
  generalize hr : rdText zs = r at hF hpk ⊢
  obtain ⟨n, k, err⟩ := r
  have HB := Lib.hid hb
  have HR := Lib.hid hr
  clear hg hb hr HF HZ HNW
  by_cases h0 : err = 0
  · subst h0
    obtain rfl : p' = k := by have : p' = 0 + k := hpk rfl; omega
    have h1 := hS.at_
    have hne : ((0 : Int) != 0) = false := rfl
    clear hpk hF
    go_wp2
    go_quiet (fail)
    go_wp2
    go_ret3
    exact ⟨by rw [HR.out]; rfl, HB.out.trans ⟨rfl, rfl, rfl, Nat.le_refl _, fun _ _ => rfl⟩⟩
  · have hne : (err != 0) = true := by simpa using h0
    have hk := hF h0
    simp only at hk
    obtain ⟨rfl, rfl⟩ := hk
    clear hpk hF
    go_wp2
    go_ret3
    exact ⟨by rw [HR.out]; rfl, HB.out⟩

theorem readText_any (a : Option Addr) (len cap : Nat) (zs : List Int) (w : World) (hz : Bytes w a len zs) (hlc : len ≤ cap) (hc : cap ≤ 9223372036854775807) :
    Calls Try.prog 21 #[.slice a len cap] w (ReadTextPost (rdText zs) w) := by
  have HZ := Lib.hid hz
  clear hz
  go_enter Try.func21, Try.ntmps21
  go_wp2_with fail
  refine (read38 a len cap zs w HZ.out hlc hc).mono ?_
  rintro e w' ⟨rfl, hb⟩
  generalize hr : rdText zs = r
  obtain ⟨n, k, err⟩ := r
  have HB := Lib.hid hb
  have HR := Lib.hid hr
  clear hb hr
  go_wp2
  go_ret3
  exact ⟨by rw [HR.out]; rfl, HB.out⟩
end Go.Proofs.Ytcdgecdcfpedfaa
