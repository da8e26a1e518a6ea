/-
  PROVED: The contract of the reference's ReadList. CONDITIONS: the slice holds at most 100000 bytes.
-/
import Derived.Test.YtcdgecdcfpedfaaH
namespace Go.Proofs.Ytcdgecdcfpedfaa
open Go.RowKit Oc
theorem ownsRow_form {w : World} {B : Nat} {e : TypeId} {size : Nat} {v : Value} {n : Nat} {xs : List Value} (h : w.ownsRow B e size v n xs) : ∃ ao cp, v = .slice ao n cp := by
  obtain ⟨h1, ⟨h2, h3⟩ | ⟨g, cap, cur, a, _⟩⟩ := h
  · exact ⟨none, 0, by rw [h2, h3]⟩
  · exact ⟨_, _, a⟩
theorem Bytes.rest {w : World} {a : Option Addr} {len : Nat} {zs : List Int} (h : Bytes w a len zs) {p : Nat} (hp : p ≤ len) {b off : Nat} (ha : a = some ⟨b, off, none⟩) : Bytes w (some ⟨b, off + p, none⟩) (len - p) (zs.drop p) := by
  obtain ⟨h1, h2, h3⟩ := h
  refine ⟨by simp; omega, fun x hx => h2 x (List.mem_of_mem_drop hx), fun hl => ⟨b, off + p, rfl, fun i hi => ?_⟩⟩
  obtain ⟨b', off', hb, hc⟩ := h3 (by omega)
  rw [ha] at hb; cases hb
  rw [Nat.add_assoc, hc (p + i) (by omega)]
  simp [List.getD, List.getElem?_drop]
theorem Bytes.none_left {w : World} {a : Option Addr} {zs : List Int} (hz : zs = []) : Bytes w a 0 zs := by
  subst hz; exact ⟨rfl, by simp, fun h => absurd h (by omega)⟩

set_option maxRecDepth 100000 in
set_option maxHeartbeats 400000 in
theorem refReadList_any (a : Option Addr) (len cap : Nat) (zs : List Int) (most : Int) (w : World) (hz : Bytes w a len zs)
    (hm0 : -9223372036854775808 ≤ most) (hm1 : most ≤ 9223372036854775807) (hlc : len ≤ cap) (hc : cap ≤ 9223372036854775807) (hsz : len ≤ 100000) :
    Calls Try.prog 30 #[.slice a len cap, .int .i64 most] w (ReadListPost (rdList zs most) w) := by
  have HZ := Lib.hid hz
  have HL := Lib.hid hz.1
  have HF := Lib.hid (rd_fits zs 0 0 hz.2.1 (by omega) (by decide))
  clear hz
  obtain ⟨i0, hi, hz0, hz1, hz2⟩ := info_parts Try.info9
  go_enter Try.func30, Try.ntmps30
  go_wp2_with fail
  refine (refReads_number a len cap zs _ HZ.out (by omega)).mono ?_
  rintro e w1 ⟨rfl, nq, rfl⟩
  have hF := HF.out
  generalize hr : rd zs 0 0 = r at hF ⊢
  obtain ⟨n, p1, err⟩ := r
  have HR1 := Lib.hid hr
  clear hr
  by_cases h0 : err = 0
  · subst h0
    have hp1 : p1 ≤ len := by have h1 := hF.2.1; simp only at h1; have h2 := HL.out; omega
    have hp0 : Hid (0 < p1) := hF.2.2.2.2 rfl
    have hne : ((0 : Int) != 0) = false := rfl
    have HNN : Hid (n < 18446744073709551616) := hF.1
    clear hF HF
    obtain ⟨mx, hmx⟩ : ∃ mx : Int, (if 0 < most then most else 0) = mx := ⟨_, rfl⟩
    have hmx' : max 0 most = mx := by rw [← hmx]; split <;> omega
    have hx0 : 0 ≤ mx := by omega
    have hx1 : mx ≤ 9223372036854775807 := by omega
    have HX := Lib.hid hmx'
    clear hmx' hm0 hm1
    by_cases hn : mx < (n : Int)
    · have hrt : rdList zs most = ([], 0, 3) := by
        unfold rdList
        rw [HR1.out, if_neg (by simp), if_pos (by rw [HX.out]; exact hn)]
      have HT := Lib.hid hrt
      clear hrt
      go_wp2
      go_ret3
      exact ⟨_, by rw [HT.out]; rfl, below_drawn _ _, by rw [HT.out]; exact World.ownsRow_nil _ _ _ _, fun _ => rfl⟩
    · have hrt : rdList zs most = rdAcc n [] p1 zs := by
        unfold rdList
        rw [HR1.out, if_neg (by simp), if_neg (by rw [HX.out]; exact hn)]
      have HT := Lib.hid hrt
      clear hrt
      obtain ⟨b, off, rfl, hcell⟩ := HZ.out.2.2 (by have := hp0.out; omega)
      clear hcell
      go_wp2
      go_loopw [8, 10] (fun at_ v wr => ∃ (p : Nat) (l : List ByteArray), at_ = .int .i64 p ∧ p ≤ len ∧ l.length ≤ n ∧ l.length ≤ p ∧ Below w.heap.size w wr ∧ wr.ownsRow w.heap.size 9 1 v l.length (l.map Value.string) ∧ Hid (rdList zs most = rdAcc (n - l.length) l p zs) ∧ Hid (l = [] → v = .slice none 0 0))
        (fun at_ _ _ => len - (intOf at_).toNat)
      case atStart => exact ⟨_, [], rfl, hp1, Nat.zero_le _, Nat.zero_le _, below_drawn _ _, World.ownsRow_nil _ _ _ _, HT.out, fun _ => rfl⟩
      case round =>
        obtain ⟨p, l, rfl, hp, hln, hl, hb, hown, hrl, hnil⟩ := hrel
        obtain ⟨ao, cp, rfl⟩ := ownsRow_form hown
        by_cases hlt : l.length < n
        · have HZW := Lib.hid (HZ.out.below hb (Nat.le_refl _))
          have hbs := hb.size
          have HBW := Lib.hid hb
          have HO := Lib.hid hown
          have hrm := @rdAcc_more (n - (l.length + 1)) p l zs
          have hrb := @rdAcc_bad (n - (l.length + 1)) p l zs
          have hfit := @rdText_fits (zs.drop p) (fun x hx => HZ.out.2.1 x (List.mem_of_mem_drop hx))
          have KEY : ∀ (o cp' : Nat), len - p ≤ cp' → cp' ≤ 9223372036854775807 → Bytes wr (some ⟨b, o, none⟩) (len - p) (zs.drop p) →
              Calls Try.prog 22 #[.slice (some ⟨b, o, none⟩) (len - p) cp'] wr (ReadTextPost (rdText (zs.drop p)) wr) := fun o cp' h1 h2 h3 => refReadText_any _ _ _ _ _ h3 h1 h2
          generalize hr2 : rdText (zs.drop p) = r2 at hrm hrb hfit KEY ⊢
          obtain ⟨s, k, err⟩ := r2
          have HM2 := Lib.hid hrm
          have HB2 := Lib.hid hrb
          have HF2 := Lib.hid hfit
          have HKEY := Lib.hid KEY
          have HR2 := Lib.hid hr2
          clear hb hown hrm hrb hfit hr2 KEY
          by_cases hcap : cap ≤ p
          · obtain rfl : p = len := by omega
            obtain rfl : cap = p := by omega
            have HE : Hid (err = 110) := by
              have h1 : zs.drop cap = [] := List.drop_of_length_le (by have := HL.out; omega)
              have h2 := HR2.out
              rw [h1] at h2
              have h3 : rdText [] = (ByteArray.empty, 0, 110) := by unfold rdText; simp [rd_end]
              rw [h3] at h2
              exact (congrArg (fun x => x.2.2) h2).symm
            have HC0 := HKEY.out off 0 (by omega) (by omega) (by rw [Nat.sub_self]; exact Bytes.none_left (List.drop_of_length_le (by have := HL.out; omega)))
            rw [Nat.sub_self] at HC0
            have HC := Lib.hid HC0
            clear HC0
            go_wp2_with fail
            refine HC.out.mono ?_
            rintro e w2 ⟨rfl, hb2⟩
            by_cases h0 : err = 0
            · exact absurd (HE.out.symm.trans h0) (by decide)
            · have hne : (err != 0) = true := by simpa using h0
              have hrt : rdList zs most = ([], 0, err) := by
                rw [hrl.out, show n - l.length = n - (l.length + 1) + 1 by omega, HB2.out (by simpa using h0)]
              have HT2 := Lib.hid hrt
              have HB4 := Lib.hid (HBW.out.trans (hb2.mono hbs))
              clear hrt hb2
              go_wp2
              go_ret3
              exact ⟨_, by rw [HT2.out]; rfl, HB4.out, by rw [HT2.out]; exact World.ownsRow_nil _ _ _ _, fun _ => rfl⟩
          · go_wp2_with fail
            refine (HKEY.out (off + p) (cap - p) (by omega) (by omega) (HZW.out.rest hp rfl)).mono ?_
            rintro e w2 ⟨rfl, hb2⟩
            by_cases h0 : err = 0
            · subst h0
              have hk : 0 < k := (HF2.out rfl).1
              have hkl : p + k ≤ len := by have h1 := (HF2.out rfl).2; have h2 := HL.out; simp at h1; omega
              have hl2 : l.length + 1 ≤ 100000 := by omega
              have HB4 := Lib.hid (HBW.out.trans (hb2.mono hbs))
              have hsz2 := HB4.out.size
              have HO2 : Hid (w2.ownsRow w.heap.size 9 1 (.slice ao l.length cp) l.length (l.map Value.string)) :=
                HO.out.kept (row := none) ⟨hb2.os, hb2.tape, hb2.output, hb2.size, fun i hi _ => hb2.block i hi⟩ (by by_cases h : (Value.slice ao l.length cp).ownBlock = none; exact .inl h; exact .inr h)
              clear hb2
              go_wp2_with (at_builtin; go_loud (refine wpList_append_own _ rfl _ _ 46 rfl w.heap.size 9 i0 (.string ByteArray.empty) 1 16 Try.underlying46 hi hz0 hz1 hz2 rfl (by decide) _ _ _ rfl (HO2.out.alloc _) ⟨w2.heap.size, 0, none⟩ 1 1 [.string s] rfl rfl (cell_one_new _ _ _) (by simp [Value.oneCell']) ?c3 ?c4 ?c5 ?_))
              case c3 => unfold maxLen; omega
              case c4 => omega
              case c5 => simp; omega
              intro v' w3 hown' hgrow hnn
              have hbb : Below w.heap.size w2 w3 := ((Below.refl w.heap.size w2).alloc hsz2 (.cells #[.string s] 9)).grown hgrow (by simp; omega) (fun k hk => (HO2.out.lt k hk).1)
              have HB3 := Lib.hid (HB4.out.trans hbb)
              have HW3 := Lib.hid hown'
              clear hgrow hbb hown' hnn
              go_wp2
              go_roundw
              case rel =>
                go_light
                refine ⟨p + k, l ++ [s], by go_num, by omega, by simp; omega, by simp; omega, HB3.out, by simpa using HW3.out, ?_, ?_⟩
                · show rdList zs most = _
                  rw [hrl.out, show n - l.length = n - (l.length + 1) + 1 by omega, HM2.out (by simp)]; simp
                · exact fun h => absurd h (by simp)
              case measure => go_light; simp [intOf]; omega
            · have hne : (err != 0) = true := by simpa using h0
              have hrt : rdList zs most = ([], 0, err) := by
                rw [hrl.out, show n - l.length = n - (l.length + 1) + 1 by omega, HB2.out (by simpa using h0)]
              have HT2 := Lib.hid hrt
              have HB4 := Lib.hid (HBW.out.trans (hb2.mono hbs))
              clear hrt hb2
              go_wp2
              go_ret3
              exact ⟨_, by rw [HT2.out]; rfl, HB4.out, by rw [HT2.out]; exact World.ownsRow_nil _ _ _ _, fun _ => rfl⟩
        · obtain rfl : l.length = n := by omega
          have hrt : rdList zs most = (l, p, 0) := by
            rw [hrl.out, Nat.sub_self, rdAcc]
          have HT2 := Lib.hid hrt
          have HO2 := Lib.hid hown
          have HG2 := Lib.hid hb
          clear hrt hown hb
          go_wp2
          go_ret3
          exact ⟨_, by rw [HT2.out]; rfl, HG2.out, by rw [HT2.out]; exact HO2.out, by rw [HT2.out]; exact hnil.out⟩
  · have hne : (err != 0) = true := by simpa using h0
    have hrt : rdList zs most = ([], 0, err) := by
      unfold rdList
      rw [HR1.out, if_pos (by simpa using h0)]
    have HT := Lib.hid hrt
    clear hF hrt
    go_wp2
    go_ret3
    exact ⟨_, by rw [HT.out]; rfl, below_drawn _ _, by rw [HT.out]; exact World.ownsRow_nil _ _ _ _, fun _ => rfl⟩
end Go.Proofs.Ytcdgecdcfpedfaa
