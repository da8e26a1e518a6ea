/-
  PROVED: The contract of ReadList. CONDITIONS: the slice holds at most 100000 bytes.
-/
import Derived.Test.YtcdgecdcfpedfaaG
namespace Go.Proofs.Ytcdgecdcfpedfaa
open Go.RowKit Oc
theorem rdAcc_no : ∀ {n p : Nat} {l : List ByteArray} {zs : List Int}, (rdAcc n l p zs).2.2 ≠ 0 → (rdAcc n l p zs).1 = [] ∧ (rdAcc n l p zs).2.1 = 0
  | 0, p, l, zs, h => absurd rfl h
  | n + 1, p, l, zs, h => by
    by_cases h1 : (rdText (zs.drop p)).2.2 = 0
    · rw [rdAcc_more h1] at h ⊢; exact rdAcc_no h
    · rw [rdAcc_bad h1]; exact ⟨rfl, rfl⟩
theorem rdList_no {zs : List Int} {most : Int} (h : (rdList zs most).2.2 ≠ 0) : (rdList zs most).1 = [] ∧ (rdList zs most).2.1 = 0 := by
  unfold rdList at *
  split
  · exact ⟨rfl, rfl⟩
  · rename_i h1
    rw [if_neg h1] at h
    split
    · exact ⟨rfl, rfl⟩
    · rename_i h2; rw [if_neg h2] at h; exact rdAcc_no h
/-- A list, how many bytes it takes, an error's number. -/
def ReadListPost (r : List ByteArray × Nat × Int) (w : World) (e : Ending) (w' : World) : Prop :=
  ∃ v, e = .returned (.tuple #[v, .int .i64 r.2.1, .int .i64 r.2.2]) ∧ Below w.heap.size w w' ∧ w'.ownsRow w.heap.size 9 1 v r.1.length (r.1.map Value.string) ∧ (r.1 = [] → v = .slice none 0 0)
theorem ownsRow_mono {w : World} {B B' : Nat} {e : TypeId} {size : Nat} {v : Value} {n : Nat} {xs : List Value} (h : w.ownsRow B e size v n xs) (hB : B' ≤ B) : w.ownsRow B' e size v n xs := by
  obtain ⟨h1, h2 | ⟨g, cap, cur, a, b, c⟩⟩ := h
  · exact ⟨h1, .inl h2⟩
  · exact ⟨h1, .inr ⟨g, cap, cur, a, Nat.le_trans hB b, c⟩⟩
set_option maxRecDepth 100000 in
set_option maxHeartbeats 400000 in
theorem read41 (M : Nat) (a : Option Addr) (len cap : Nat) (zs : List Int) (most : Int) (w : World) (hz : Bytes w a len zs) (hM : w.cell? ⟨M, 0, none⟩ = some (.int .i64 most))
    (hm0 : -9223372036854775808 ≤ most) (hm1 : most ≤ 9223372036854775807) (hlc : len ≤ cap) (hc : cap ≤ 9223372036854775807) (hsz : len ≤ 100000) :
    Calls Try.prog 41 #[.slice a len cap, .func (.func 42) #[] #[.pointer (some ⟨M, 0, none⟩)]] w (ReadListPost (rdList zs most) w) := by
  have HZ := Lib.hid hz
  have HM := Lib.hid hM
  have HF := Lib.hid (@rdList_no zs most)
  have HMB : Hid (M < w.heap.size) := World.block_lt_of_cell? w _ hM
  clear hz hM
  go_enter Try.func41, Try.ntmps41
  go_wp2_with fail
  have HNW := new_stands w a len cap 88
  have hbw := (Below.refl _ w).alloc (Nat.le_refl _) (.cells #[.slice a len cap, .int .i64 0] 88)
  refine (reads_list w.heap.size M a len cap zs most _ HNW (HZ.out.below hbw (Nat.le_refl _)) ((hbw.cell (p := ⟨M, 0, none⟩) HMB.out).trans HM.out) (by have := HMB.out; omega) hm0 hm1 (HZ.out.other (Nat.le_refl _)) hlc hc hsz).mono ?_
  rintro e w' ⟨v, rfl, hg, ⟨p', hp', hS, hpk⟩, hown, hnil⟩
  have hb := below_of_grown hg
  have hF := HF.out
  generalize hr : rdList zs most = r at hF hpk hown hnil ⊢
  obtain ⟨n, k, err⟩ := r
  have HB := Lib.hid hb
  have HR := Lib.hid hr
  have HO : Hid (w'.ownsRow w.heap.size 9 1 v n.length (n.map Value.string)) := ownsRow_mono hown (by simp)
  have HNIL := Lib.hid hnil
  clear hg hb hr HF HZ HNW hown hnil hbw
  by_cases h0 : err = 0
  · subst h0
    obtain rfl : p' = k := hpk rfl
    have h1 := hS.at_
    have hne : ((0 : Int) != 0) = false := rfl
    clear hpk hF
    go_wp2
    go_quiet (fail)
    go_wp2
    go_ret3
    exact ⟨v, by rw [HR.out]; rfl, HB.out.trans ⟨rfl, rfl, rfl, Nat.le_refl _, fun _ _ => rfl⟩, by rw [HR.out]; exact HO.out, by rw [HR.out]; exact HNIL.out⟩
  · have hne : (err != 0) = true := by simpa using h0
    have hk := hF h0
    simp only at hk
    obtain ⟨rfl, rfl⟩ := hk
    clear hpk hF
    go_wp2
    go_ret3
    exact ⟨_, by rw [HR.out]; rfl, HB.out, by rw [HR.out]; exact World.ownsRow_nil _ _ _ _, fun _ => rfl⟩

theorem readList_any (a : Option Addr) (len cap : Nat) (zs : List Int) (most : Int) (w : World) (hz : Bytes w a len zs)
    (hm0 : -9223372036854775808 ≤ most) (hm1 : most ≤ 9223372036854775807) (hlc : len ≤ cap) (hc : cap ≤ 9223372036854775807) (hsz : len ≤ 100000) :
    Calls Try.prog 28 #[.slice a len cap, .int .i64 most] w (ReadListPost (rdList zs most) w) := by
  have HZ := Lib.hid hz
  have HM0 := Lib.hid hm0
  have HM1 := Lib.hid hm1
  clear hz hm0 hm1
  have hmf : ∀ (fn : Fn) (first cap : Array Value) (w : World), (Instr.makeFunc fn first cap).run Try.prog w = .ok (.func fn first cap) w := fun _ _ _ _ => rfl
  go_enter Try.func28, Try.ntmps28
  go_wp2_with fail
  have hbw := (Below.refl _ w).alloc (Nat.le_refl _) (.cells #[.int .i64 most] 3)
  refine (read41 w.heap.size a len cap zs most _ (HZ.out.below hbw (Nat.le_refl _)) (by simp) HM0.out HM1.out hlc hc hsz).mono ?_
  rintro e w' ⟨v, rfl, hb, hown, hnil⟩
  generalize hr : rdList zs most = r at hown hnil ⊢
  obtain ⟨n, k, err⟩ := r
  have HB := Lib.hid (hbw.trans (hb.mono (by simp)))
  have HR := Lib.hid hr
  have HO : Hid (w'.ownsRow w.heap.size 9 1 v n.length (n.map Value.string)) := ownsRow_mono hown (by simp)
  have HNIL := Lib.hid hnil
  clear hb hr hown hnil hbw
  go_wp2
  go_ret3
  exact ⟨v, by rw [HR.out]; rfl, HB.out, by rw [HR.out]; exact HO.out, by rw [HR.out]; exact HNIL.out⟩
end Go.Proofs.Ytcdgecdcfpedfaa
