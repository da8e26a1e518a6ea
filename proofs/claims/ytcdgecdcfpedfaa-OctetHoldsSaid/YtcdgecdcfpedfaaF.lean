/-
  PROVED: The contract of the reference's ReadText. CONDITIONS: the slice holds bytes.
-/
import Derived.Test.YtcdgecdcfpedfaaE
namespace Go.Proofs.Ytcdgecdcfpedfaa
open Go.RowKit Oc
theorem below_drawn (w : World) (n : Nat) : Below w.heap.size w (w.drewN n) := ⟨rfl, rfl, rfl, Nat.le_refl _, fun _ _ => rfl⟩
theorem Bytes.drawn {w : World} {a : Option Addr} {len : Nat} {zs : List Int} (h : Bytes w a len zs) (n : Nat) : Bytes (w.drewN n) a len zs := h
set_option maxRecDepth 100000 in
set_option maxHeartbeats 400000 in
theorem refReadText_any (a : Option Addr) (len cap : Nat) (zs : List Int) (w : World) (hz : Bytes w a len zs) (hlc : len ≤ cap) (hc : cap ≤ 9223372036854775807) :
    Calls Try.prog 22 #[.slice a len cap] w (ReadTextPost (rdText zs) w) := by
  have HZ := Lib.hid hz
  have HF := Lib.hid (rd_fits zs 0 0 hz.2.1 (by omega) (by decide))
  have HL := Lib.hid hz.1
  clear hz
  go_enter Try.func22, Try.ntmps22
  go_wp2_with fail
  refine (refReads_number a len cap zs _ HZ.out (by omega)).mono ?_
  rintro e w1 ⟨rfl, nq, rfl⟩
  have hF := HF.out
  generalize hr : rd zs 0 0 = r at hF ⊢
  obtain ⟨n, k, err⟩ := r
  have HR1 := Lib.hid hr
  clear hr
  by_cases h0 : err = 0
  · subst h0
    have HK : Hid (0 < k) := hF.2.2.2.2 rfl
    have hk : k ≤ len := by have h1 := hF.2.1; simp only at h1; have h2 := HL.out; omega
    have hne : ((0 : Int) != 0) = false := rfl
    have HF1 := Lib.hid hF
    clear hF HF
    obtain ⟨b, off, rfl, hcell⟩ := HZ.out.2.2 (by have := HK.out; omega)
    clear hcell
    by_cases hy : n + k ≤ len
    · have hrt : rdText zs = (strOfNums ((zs.drop k).take n), k + n, 0) := by
        unfold rdText
        rw [HR1.out]
        have := HL.out
        rw [if_neg (by simp), if_pos (by simp; omega)]
      have HT := Lib.hid hrt
      clear hrt
      have hlt : ¬ (len : Int) - k < n := by omega
      by_cases hcap : cap ≤ k
      · have hcs := run_convert_bytes_arg (P := Try.prog) (w.drewN nq) 23 5 Try.underlying23 Try.underlying5 b off 0 0 [] rfl (fun i hi => by omega) 9 Try.underlying9
        obtain rfl : n = 0 := by omega
        obtain rfl : cap = k := by omega
        go_wp2
        go_ret3
        exact ⟨by rw [HT.out]; rfl, below_drawn _ _⟩
      · have hcs := run_convert_bytes_arg (P := Try.prog) (w.drewN nq) 23 5 Try.underlying23 Try.underlying5 b (off + k) n (cap - k) ((zs.drop k).take n) (by have := HL.out; simp; omega) (HZ.out.slice_cells (by omega) (fun _ => rfl)) 9 Try.underlying9
        go_wp2
        go_ret3
        exact ⟨by rw [HT.out]; rfl, below_drawn _ _⟩
    · have hlt : (len : Int) - k < n := by omega
      have hrt : rdText zs = (ByteArray.empty, 0, 110) := by
        unfold rdText
        rw [HR1.out]
        have := HL.out
        rw [if_neg (by simp), if_neg (by simp; omega)]
      have HT := Lib.hid hrt
      clear hrt
      go_wp2
      go_ret3
      exact ⟨by rw [HT.out]; rfl, below_drawn _ _⟩
  · have hne : (err != 0) = true := by simpa using h0
    have hrt : rdText zs = (ByteArray.empty, 0, err) := by
      unfold rdText
      rw [HR1.out, if_pos (by simpa using h0)]
    have HT := Lib.hid hrt
    clear hF hrt
    go_wp2
    go_ret3
    exact ⟨by rw [HT.out]; rfl, below_drawn _ _⟩
end Go.Proofs.Ytcdgecdcfpedfaa
