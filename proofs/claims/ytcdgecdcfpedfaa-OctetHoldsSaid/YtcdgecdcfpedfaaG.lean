/-
  PROVED: The contract of ReadList's closure. CONDITIONS: the slice holds at most 100000 bytes.
-/
import Derived.Test.YtcdgecdcfpedfaaF
namespace Go.Proofs.Ytcdgecdcfpedfaa
open Go.RowKit Oc
theorem Try.info9 : (Try.prog.info? 9).map (fun i => (i.zero, i.size, i.bytes)) = some (some (.string ByteArray.empty), 1, 16) := by kernel_rfl
theorem rdText_fits {zs : List Int} (hb : ∀ x ∈ zs, 0 ≤ x ∧ x ≤ 255) (h : (rdText zs).2.2 = 0) : 0 < (rdText zs).2.1 ∧ (rdText zs).2.1 ≤ zs.length := by
  have hf := rd_fits zs 0 0 hb (by omega) (by decide)
  unfold rdText at *
  split at h
  · rename_i h1; exact absurd h h1
  · rename_i h1
    rw [if_neg h1]
    split at h
    · rename_i h2
      rw [if_pos h2]
      have := hf.2.2.2.2 (by simpa using h1)
      simp only; omega
    · simp at h
/-- So many texts, behind those that were read. -/
def rdAcc : Nat → List ByteArray → Nat → List Int → List ByteArray × Nat × Int
  | 0, l, p, _ => (l, p, 0)
  | n + 1, l, p, zs => if (rdText (zs.drop p)).2.2 ≠ 0 then ([], 0, (rdText (zs.drop p)).2.2) else rdAcc n (l ++ [(rdText (zs.drop p)).1]) (p + (rdText (zs.drop p)).2.1) zs
/-- A list that bytes begin with, of so many at most. -/
def rdList (zs : List Int) (most : Int) : List ByteArray × Nat × Int :=
  if (rd zs 0 0).2.2 ≠ 0 then ([], 0, (rd zs 0 0).2.2)
  else if max 0 most < ((rd zs 0 0).1 : Int) then ([], 0, 3)
  else rdAcc (rd zs 0 0).1 [] (rd zs 0 0).2.1 zs
theorem rdAcc_bad {n p : Nat} {l : List ByteArray} {zs : List Int} (h : (rdText (zs.drop p)).2.2 ≠ 0) : rdAcc (n + 1) l p zs = ([], 0, (rdText (zs.drop p)).2.2) := by rw [rdAcc, if_pos h]
theorem rdAcc_more {n p : Nat} {l : List ByteArray} {zs : List Int} (h : (rdText (zs.drop p)).2.2 = 0) : rdAcc (n + 1) l p zs = rdAcc n (l ++ [(rdText (zs.drop p)).1]) (p + (rdText (zs.drop p)).2.1) zs := by rw [rdAcc, if_neg (by simpa using h)]

theorem grown_below {w w2 w3 : World} {r : Option Nat} (h : w.grownBy w2 r) (k : Below w.heap.size w2 w3) : w.grownBy w3 r :=
  ⟨k.os.trans h.os, k.tape.trans h.tape, k.output.trans h.output, Nat.le_trans h.size k.size, fun i hi hr => (k.block i hi).trans (h.block i hi hr)⟩
theorem Stands.below {w w' : World} {R B : Nat} {a : Option Addr} {len cap p : Nat} (h : Stands w R a len cap p) (k : Below B w w') (hR : R < B) : Stands w' R a len cap p :=
  ⟨(k.cell (p := ⟨R, 0, none⟩) hR).trans h.bytes, (k.cell (p := ⟨R, 1, none⟩) hR).trans h.at_, (k.frozen (p := ⟨R, 1, none⟩) hR).trans h.free⟩
/-- What is told of a list that is read: by the slice, an error's number. -/
def ListPost (R : Nat) (a : Option Addr) (len cap : Nat) (r : List ByteArray × Nat × Int) (w : World) (e : Ending) (w' : World) : Prop :=
  ∃ v, e = .returned (.tuple #[v, .int .i64 r.2.2]) ∧ w.grownBy w' (some R) ∧ (∃ p', p' ≤ len ∧ Stands w' R a len cap p' ∧ (r.2.2 = 0 → p' = r.2.1)) ∧ w'.ownsRow w.heap.size 9 1 v r.1.length (r.1.map Value.string) ∧ (r.1 = [] → v = .slice none 0 0)

set_option maxRecDepth 100000 in
set_option maxHeartbeats 400000 in
theorem reads_list (R M : Nat) (a : Option Addr) (len cap : Nat) (zs : List Int) (most : Int) (w : World) (hR : Stands w R a len cap 0) (hz : Bytes w a len zs)
    (hM : w.cell? ⟨M, 0, none⟩ = some (.int .i64 most)) (hMR : M ≠ R) (hm0 : -9223372036854775808 ≤ most) (hm1 : most ≤ 9223372036854775807)
    (hne : 0 < len → ∀ x, a = some x → x.block ≠ R) (hlc : len ≤ cap) (hc : cap ≤ 9223372036854775807) (hsz : len ≤ 100000) :
    Calls Try.prog 42 #[.pointer (some ⟨R, 0, none⟩), .pointer (some ⟨M, 0, none⟩)] w (ListPost R a len cap (rdList zs most) w) := by
  have HR := Lib.hid hR
  have HZ := Lib.hid hz
  have HN := Lib.hid hne
  have HMR := Lib.hid hMR
  have HM := Lib.hid hM
  have HF := Lib.hid (rd_fits zs 0 0 hz.2.1 (by omega) (by decide))
  have HRS : Hid (R < w.heap.size) := World.block_lt_of_cell? w _ hR.at_
  clear hR hz hne hM hMR
  obtain ⟨i0, hi, hz0, hz1, hz2⟩ := info_parts Try.info9
  go_enter Try.func42, Try.ntmps42
  go_wp2_with fail
  refine (reads_number R a len cap 0 zs _ HR.out HZ.out HN.out (by omega) hlc hc).mono ?_
  rintro e w1 ⟨rfl, hg, p1, hp1, hS, hpk⟩
  have hF := HF.out
  rw [show List.drop 0 zs = zs from rfl] at hpk ⊢
  generalize hr : rd zs 0 0 = r at hF hpk ⊢
  obtain ⟨n, k, err⟩ := r
  have HR1 := Lib.hid hr
  have HG := Lib.hid hg
  have HS := Lib.hid hS
  clear hg hr hS
  by_cases h0 : err = 0
  · subst h0
    obtain rfl : p1 = k := by have : p1 = 0 + k := hpk rfl; omega
    have hne : ((0 : Int) != 0) = false := rfl
    have HNN : Hid (n < 18446744073709551616) := hF.1
    clear hpk hF HF
    have hM1 := HG.out.cell HM.out (by have := HMR.out; simpa using this)
    obtain ⟨mx, hmx⟩ : ∃ mx : Int, (if 0 < most then most else 0) = mx := ⟨_, rfl⟩
    have hmx' : max 0 most = mx := by rw [← hmx]; split <;> omega
    have hx0 : 0 ≤ mx := by omega
    have hx1 : mx ≤ 9223372036854775807 := by omega
    have HX := Lib.hid hmx'
    clear hmx' hm0 hm1
    by_cases hn : mx < (n : Int)
    · have hrt : rdList zs most = ([], 0, 3) := by
        unfold rdList
        rw [HR1.out, if_neg (by simp), if_pos (by rw [HX.out]; exact hn)]
      have HT := Lib.hid hrt
      clear hrt
      go_wp2
      go_ret2
      refine ⟨_, by rw [HT.out]; rfl, HG.out, ⟨_, hp1, HS.out, ?_⟩, ?_, fun _ => rfl⟩
      · rw [HT.out]; intro h; exact absurd h (by decide)
      · rw [HT.out]; exact World.ownsRow_nil _ _ _ _
    · have hrt : rdList zs most = rdAcc n [] p1 zs := by
        unfold rdList
        rw [HR1.out, if_neg (by simp), if_neg (by rw [HX.out]; exact hn)]
      have HT := Lib.hid hrt
      clear hrt
      have hmf : ∀ (fn : Fn) (first cap : Array Value) (w : World), (Instr.makeFunc fn first cap).run Try.prog w = .ok (.func fn first cap) w := fun _ _ _ _ => rfl
      go_wp2
      clear hM1
      go_loopw [3, 25] (fun v i wr => ∃ (j p : Nat) (l : List ByteArray), i = .int .u64 j ∧ j ≤ n ∧ p ≤ len ∧ l.length ≤ p ∧ w.grownBy wr (some R) ∧ Hid (Stands wr R a len cap p) ∧ wr.ownsRow w.heap.size 9 1 v l.length (l.map Value.string) ∧ Hid (rdList zs most = rdAcc (n - j) l p zs) ∧ Hid (l = [] → v = .slice none 0 0))
        (fun _ i _ => n - (intOf i).toNat)
      case atStart => exact ⟨0, _, [], rfl, Nat.zero_le _, hp1, Nat.zero_le _, HG.out, HS.out, World.ownsRow_nil _ _ _ _, HT.out, fun _ => rfl⟩
      case round =>
        obtain ⟨j, p, l, rfl, hj, hp, hl, hg, hS, hown, hrl, hnil⟩ := hrel
        by_cases hlt : j < n
        · go_wp2_with fail
          refine (reads_text R a len cap p zs wr hS.out (HZ.out.grown hg HN.out) HN.out hp hlc hc).mono ?_
          rintro e w2 ⟨rfl, hg2, p2, hp2, hS2, hpk2⟩
          have hrm := @rdAcc_more (n - (j + 1)) p l zs
          have hrb := @rdAcc_bad (n - (j + 1)) p l zs
          have hfit := @rdText_fits (zs.drop p) (fun x hx => HZ.out.2.1 x (List.mem_of_mem_drop hx))
          generalize hr2 : rdText (zs.drop p) = r2 at hpk2 hrm hrb hfit ⊢
          obtain ⟨s, k, err⟩ := r2
          have HG2 : Hid (w.grownBy w2 (some R)) := grownBy_trans hg hg2
          have HS2 := Lib.hid hS2
          have HO2 : Hid (w2.ownsRow w.heap.size 9 1 _ l.length (l.map Value.string)) := hown.kept hg2 (.inr (fun h => by have := (hown.lt _ h).1; have := HRS.out; omega))
          have HM2 := Lib.hid hrm
          have HB2 := Lib.hid hrb
          have HF2 := Lib.hid hfit
          have HP2 := Lib.hid hpk2
          clear hg hg2 hS hS2 hown hrm hrb hfit hpk2 hr2
          by_cases h0 : err = 0
          · subst h0
            obtain rfl : p2 = p + k := HP2.out rfl
            have hk : 0 < k := (HF2.out rfl).1
            have hl2 : l.length + 1 ≤ 100000 := by omega
            have hb2 := HG2.out.size
            go_wp2_with (at_builtin; go_loud (refine wpList_append_own _ rfl _ _ 46 rfl w.heap.size 9 i0 (.string ByteArray.empty) 1 16 Try.underlying46 hi hz0 hz1 hz2 rfl (by decide) _ _ _ rfl (HO2.out.alloc _) ⟨w2.heap.size, 0, none⟩ 1 1 [.string s] rfl rfl (cell_one_new _ _ _) (by simp [Value.oneCell']) ?c3 ?c4 ?c5 ?_))
            case c3 => unfold maxLen; omega
            case c4 => omega
            case c5 => simp; omega
            intro v' w3 hown' hgrow hnn
            have hbb : Below w.heap.size w2 w3 := ((Below.refl w.heap.size w2).alloc hb2 (.cells #[.string s] 9)).grown hgrow (by simp; omega) (fun k hk => (HO2.out.lt k hk).1)
            have HB3 := Lib.hid hbb
            have HW3 := Lib.hid hown'
            have HNN3 := Lib.hid hnn
            clear hgrow hbb hown' hnn
            go_wp2
            go_roundw
            case rel =>
              go_light
              refine ⟨j + 1, p + k, l ++ [s], by go_num, by omega, by omega, by simp; omega, grown_below HG2.out HB3.out, HS2.out.below HB3.out HRS.out, by simpa using HW3.out, ?_, ?_⟩
              · show rdList zs most = _
                rw [hrl.out, show n - j = n - (j + 1) + 1 by omega, HM2.out (by simp)]
              · exact fun h => absurd h (by simp)
            case measure => go_light; simp [intOf]; omega
          · have hne : (err != 0) = true := by simpa using h0
            have hrt : rdList zs most = ([], 0, err) := by
              rw [hrl.out, show n - j = n - (j + 1) + 1 by omega, HB2.out (by simpa using h0)]
            have HT2 := Lib.hid hrt
            clear hrt
            go_wp2
            go_ret2
            refine ⟨_, by rw [HT2.out]; rfl, HG2.out, ⟨_, hp2, HS2.out, ?_⟩, ?_, fun _ => rfl⟩
            · rw [HT2.out]; intro h; exact absurd h (by simpa using h0)
            · rw [HT2.out]; exact World.ownsRow_nil _ _ _ _
        · obtain rfl : j = n := by omega
          have hrt : rdList zs most = (l, p, 0) := by
            rw [hrl.out, Nat.sub_self, rdAcc]
          have HT2 := Lib.hid hrt
          have HO2 := Lib.hid hown
          have HG2 := Lib.hid hg
          clear hrt hown hg
          go_wp2
          go_ret2
          refine ⟨_, by rw [HT2.out]; rfl, HG2.out, ⟨_, hp, hS.out, ?_⟩, ?_, ?_⟩
          · rw [HT2.out]; intro _; rfl
          · rw [HT2.out]; exact HO2.out
          · rw [HT2.out]; exact hnil.out
  · have hne : (err != 0) = true := by simpa using h0
    have hrt : rdList zs most = ([], 0, err) := by
      unfold rdList
      rw [HR1.out, if_pos (by simpa using h0)]
    have HT := Lib.hid hrt
    clear hpk hF hrt
    go_wp2
    go_ret2
    refine ⟨_, by rw [HT.out]; rfl, HG.out, ⟨_, hp1, HS.out, ?_⟩, ?_, fun _ => rfl⟩
    · rw [HT.out]; intro h; exact absurd h (by simpa using h0)
    · rw [HT.out]; exact World.ownsRow_nil _ _ _ _
end Go.Proofs.Ytcdgecdcfpedfaa
