/-
  PROVED: Contracts of ReadNumber and ReadSigned, the program's and the reference's. CONDITIONS: the slice holds bytes.
-/
import Derived.Test.YtcdgecdcfpedfaaC
namespace Go.Proofs.Ytcdgecdcfpedfaa
open Go.RowKit Oc
theorem Bytes.below {w w' : World} {a : Option Addr} {len B : Nat} {zs : List Int} (h : Bytes w a len zs) (hb : Below B w w') (hB : w.heap.size ≤ B) : Bytes w' a len zs := by
  obtain ⟨h1, h2, h3⟩ := h
  refine ⟨h1, h2, fun hl => ?_⟩
  obtain ⟨b, off, ha, hc⟩ := h3 hl
  refine ⟨b, off, ha, fun i hi => ?_⟩
  have := hc i hi
  rw [hb.cell (Nat.lt_of_lt_of_le (World.block_lt_of_cell? w _ this) hB)]
  exact this
theorem Bytes.other {w : World} {a : Option Addr} {len : Nat} {zs : List Int} (h : Bytes w a len zs) {R : Nat} (hR : w.heap.size ≤ R) : 0 < len → ∀ x, a = some x → x.block ≠ R := by
  obtain ⟨h1, h2, h3⟩ := h
  intro hl x hx
  obtain ⟨b, off, ha, hc⟩ := h3 hl
  have := World.block_lt_of_cell? w _ (hc 0 hl)
  rw [ha] at hx; cases hx
  show b ≠ R
  have : b < w.heap.size := this
  omega
theorem new_stands (w : World) (a : Option Addr) (len cap : Nat) (t : TypeId) : Stands (w.alloc (.cells #[.slice a len cap, .int .i64 0] t)) w.heap.size a len cap 0 :=
  ⟨by simp, by simp, by simp⟩
theorem below_of_grown {w : World} {o : Obj} {w' : World} (h : (w.alloc o).grownBy w' (some w.heap.size)) : Below w.heap.size w w' :=
  ((Below.refl _ w).alloc (Nat.le_refl _) o).grown h (by simp) (fun k hk => by cases hk; exact Nat.le_refl _)
/-- A number, how many bytes it has, an error's number: the program's, or the document's; of what was there nothing has turned. -/
def ReadPost (r : Nat × Nat × Int) (w : World) (e : Ending) (w' : World) : Prop :=
  e = .returned (.tuple #[.int .u64 r.1, .int .i64 r.2.1, .int .i64 r.2.2]) ∧ Below w.heap.size w w'

set_option maxRecDepth 100000 in
set_option maxHeartbeats 400000 in
theorem read35 (a : Option Addr) (len cap : Nat) (zs : List Int) (w : World) (hz : Bytes w a len zs) (hlc : len ≤ cap) (hc : cap ≤ 9223372036854775807) :
    Calls Try.prog 35 #[.slice a len cap, .func (.func 36) #[] #[]] w (ReadPost (rd zs 0 0) w) := by
  have HZ := Lib.hid hz
  have HF := Lib.hid (rd_fits zs 0 0 hz.2.1 (by omega) (by decide))
  clear hz
  go_enter Try.func35, Try.ntmps35
  go_wp2_with fail
  have HNW := new_stands w a len cap 88
  refine (reads_number w.heap.size a len cap 0 zs _ HNW (HZ.out.below ((Below.refl _ w).alloc (Nat.le_refl _) _) (Nat.le_refl _)) (HZ.out.other (Nat.le_refl _)) (by omega) hlc hc).mono ?_
  rintro e w' ⟨rfl, hg, p', hp', hS, hpk⟩
  have hb := below_of_grown hg
  have hF := HF.out
  rw [show List.drop 0 zs = zs from rfl] at hpk ⊢
  generalize hr : rd zs 0 0 = r at hF hpk ⊢
  obtain ⟨n, k, err⟩ := r
  have HB := Lib.hid hb
  have HR := Lib.hid hr
  clear hg hb hr HF HZ HNW
  by_cases h0 : err = 0
  · subst h0
    obtain rfl : p' = k := by have : p' = 0 + k := hpk rfl; omega
    have h1 := hS.at_
    have hne : ((0 : Int) != 0) = false := rfl
    clear hpk hF
    go_wp2
    go_quiet (fail)
    go_wp2
    go_ret3
    exact ⟨by rw [HR.out]; rfl, HB.out.trans ⟨rfl, rfl, rfl, Nat.le_refl _, fun _ _ => rfl⟩⟩
  · have hne : (err != 0) = true := by simpa using h0
    have hk := hF.2.2.2.1 h0
    simp only at hk
    obtain ⟨rfl, rfl⟩ := hk
    clear hpk hF
    go_wp2
    go_ret3
    exact ⟨by rw [HR.out]; rfl, HB.out⟩

theorem readNumber_any (a : Option Addr) (len cap : Nat) (zs : List Int) (w : World) (hz : Bytes w a len zs) (hlc : len ≤ cap) (hc : cap ≤ 9223372036854775807) :
    Calls Try.prog 15 #[.slice a len cap] w (ReadPost (rd zs 0 0) w) := by
  have HZ := Lib.hid hz
  clear hz
  go_enter Try.func15, Try.ntmps15
  go_wp2_with fail
  refine (read35 a len cap zs w HZ.out hlc hc).mono ?_
  rintro e w' ⟨rfl, hb⟩
  generalize hr : rd zs 0 0 = r
  obtain ⟨n, k, err⟩ := r
  have HB := Lib.hid hb
  have HR := Lib.hid hr
  clear hb hr
  go_wp2
  go_ret3
  exact ⟨by rw [HR.out]; rfl, HB.out⟩

/-- A signed number, how many bytes it has, an error's number. -/
def SignedPost (r : Nat × Nat × Int) (w : World) (e : Ending) (w' : World) : Prop :=
  e = .returned (.tuple #[.int .i64 (unzig r.1), .int .i64 r.2.1, .int .i64 r.2.2]) ∧ Below w.heap.size w w'
theorem readSigned_any (a : Option Addr) (len cap : Nat) (zs : List Int) (w : World) (hz : Bytes w a len zs) (hlc : len ≤ cap) (hc : cap ≤ 9223372036854775807) :
    Calls Try.prog 16 #[.slice a len cap] w (SignedPost (rd zs 0 0) w) := by
  have HZ := Lib.hid hz
  have HF := Lib.hid (rd_fits zs 0 0 hz.2.1 (by omega) (by decide))
  clear hz
  go_enter Try.func16, Try.ntmps16
  go_wp2_with fail
  refine (readNumber_any a len cap zs w HZ.out hlc hc).mono ?_
  rintro e w' ⟨rfl, hb⟩
  have hF := HF.out.1
  generalize hr : rd zs 0 0 = r at hF ⊢
  obtain ⟨n, k, err⟩ := r
  have HB := Lib.hid hb
  have HN := Lib.hid hF
  have HR := Lib.hid hr
  clear hb hr hF
  have E := Lib.hid (unzig_xor HN.out)
  go_wp2
  go_ret3
  exact ⟨by rw [HR.out]; exact signed_eq E.out, HB.out⟩
theorem refReadSigned_any (a : Option Addr) (len cap : Nat) (zs : List Int) (w : World) (hz : Bytes w a len zs) (hc : len ≤ 9223372036854775807) :
    Calls Try.prog 20 #[.slice a len cap] w (SignedPost (rd zs 0 0) w) := by
  have HZ := Lib.hid hz
  have HF := Lib.hid (rd_fits zs 0 0 hz.2.1 (by omega) (by decide))
  clear hz
  go_enter Try.func20, Try.ntmps20
  go_wp2_with fail
  refine (refReads_number a len cap zs w HZ.out hc).mono ?_
  rintro e w' ⟨rfl, nq, rfl⟩
  have hF := HF.out
  generalize hr : rd zs 0 0 = r at hF ⊢
  obtain ⟨n, k, err⟩ := r
  have HR := Lib.hid hr
  by_cases h0 : err = 0
  · subst h0
    have hne : ((0 : Int) != 0) = false := rfl
    have HF := Lib.hid hF
    clear hr hF
    by_cases h2 : n % 2 = 1
    · have h2' : ((n : Int) % 2 == 1) = true := by simp; omega
      have E := Lib.hid (unzig_odd HF.out.1 h2)
      clear h2
      go_wp2
      go_ret3
      exact ⟨by rw [HR.out]; exact signed_eq E.out, ⟨rfl, rfl, rfl, Nat.le_refl _, fun _ _ => rfl⟩⟩
    · have h2' : ((n : Int) % 2 == 1) = false := by simp; omega
      have E := Lib.hid (unzig_even HF.out.1 h2)
      clear h2
      go_wp2
      go_ret3
      exact ⟨by rw [HR.out]; exact signed_eq E.out, ⟨rfl, rfl, rfl, Nat.le_refl _, fun _ _ => rfl⟩⟩
  · have hne : (err != 0) = true := by simpa using h0
    have hk := hF.2.2.2.1 h0
    simp only at hk
    obtain ⟨rfl, rfl⟩ := hk
    clear hr hF
    go_wp2
    go_ret3
    exact ⟨by rw [HR.out]; exact signed_eq (show (0 : Int) = unzig 0 by decide), ⟨rfl, rfl, rfl, Nat.le_refl _, fun _ _ => rfl⟩⟩
end Go.Proofs.Ytcdgecdcfpedfaa
