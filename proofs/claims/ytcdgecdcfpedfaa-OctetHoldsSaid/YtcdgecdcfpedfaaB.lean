/-
  PROVED: The contract of the reader's number: it reads what 'rd' reads, and writes to the reader alone. CONDITIONS: the reader stands in its bytes; the bytes do not lie in the reader.
-/
import Derived.Test.YtcdgecdcfpedfaaA
import Derived.Deep.RegionHeld
import Derived.Deep.Light
namespace Go.Proofs.Ytcdgecdcfpedfaa
open Go.RowKit Oc
theorem has_yes (R : Nat) (a : Option Addr) (len cap : Nat) (p : Nat) (n : Int) (w : World) (h0 : w.cell? ⟨R, 0, none⟩ = some (.slice a len cap)) (h1 : w.cell? ⟨R, 1, none⟩ = some (.int .i64 p)) (hp : p ≤ len) (hl : len ≤ 9223372036854775807) (hy : n + p ≤ len) :
   Calls Try.prog 45 #[.pointer (some ⟨R, 0, none⟩), .int .u64 n] w fun e w' => e = .returned (.bool true) ∧ ∃ nq, w' = w.drewN nq :=
  (has_any R a len cap p n w h0 h1 hp hl).mono fun e w' ⟨he, hw⟩ => ⟨by rw [he]; congr 2; simp; omega, hw⟩
theorem has_no (R : Nat) (a : Option Addr) (len cap : Nat) (p : Nat) (n : Int) (w : World) (h0 : w.cell? ⟨R, 0, none⟩ = some (.slice a len cap)) (h1 : w.cell? ⟨R, 1, none⟩ = some (.int .i64 p)) (hp : p ≤ len) (hl : len ≤ 9223372036854775807) (hy : ¬ n + p ≤ len) :
   Calls Try.prog 45 #[.pointer (some ⟨R, 0, none⟩), .int .u64 n] w fun e w' => e = .returned (.bool false) ∧ ∃ nq, w' = w.drewN nq :=
  (has_any R a len cap p n w h0 h1 hp hl).mono fun e w' ⟨he, hw⟩ => ⟨by rw [he]; congr 2; simp; omega, hw⟩

/-- The bytes that a slice leads to. -/
def Bytes (w : World) (a : Option Addr) (len : Nat) (zs : List Int) : Prop :=
  zs.length = len ∧ (∀ x ∈ zs, 0 ≤ x ∧ x ≤ 255) ∧ (0 < len → ∃ b off, a = some ⟨b, off, none⟩ ∧ ∀ i, i < len → w.cell? ⟨b, off + i, none⟩ = some (.int .u8 (zs.getD i 0)))

/-- A reader stands at p. -/
structure Stands (w : World) (R : Nat) (a : Option Addr) (len cap p : Nat) : Prop where
  bytes : w.cell? ⟨R, 0, none⟩ = some (.slice a len cap)
  at_ : w.cell? ⟨R, 1, none⟩ = some (.int .i64 p)
  free : w.frozen? ⟨R, 1, none⟩ = false

def NumPost (R : Nat) (a : Option Addr) (len cap p : Nat) (r : Nat × Nat × Int) (w : World) (e : Ending) (w' : World) : Prop :=
  e = .returned (.tuple #[.int .u64 r.1, .int .i64 r.2.2]) ∧ w.grownBy w' (some R) ∧ ∃ p', p' ≤ len ∧ Stands w' R a len cap p' ∧ (r.2.2 = 0 → p' = p + r.2.1)

theorem grownBy_setCell (w : World) (n R o : Nat) (v : Value) : w.grownBy ((w.drewN n).setCell ⟨R, o, none⟩ v) (some R) :=
  ⟨rfl, rfl, rfl, by simp, fun k _ hk => by
    have : k ≠ R := fun h => hk (by rw [h])
    exact Below.heap_setCell (w.drewN n) ⟨R, o, none⟩ v k this⟩
theorem grownBy_trans {a b c : World} {r : Option Nat} (h : a.grownBy b r) (k : b.grownBy c r) : a.grownBy c r :=
  ⟨k.os.trans h.os, k.tape.trans h.tape, k.output.trans h.output, Nat.le_trans h.size k.size, fun i hi hr => (k.block i (Nat.lt_of_lt_of_le hi h.size) hr).trans (h.block i hi hr)⟩
theorem grown_alloc {w w' : World} {r : Option Nat} (h : w.grownBy w' r) (o : Obj) : w.grownBy (w'.alloc o) r :=
  grownBy_trans h (World.grownBy_alloc w' o r)
theorem Stands.alloc {w : World} {R : Nat} {a : Option Addr} {len cap p : Nat} (h : Stands w R a len cap p) (o : Obj) : Stands (w.alloc o) R a len cap p :=
  ⟨(World.cell?_alloc_some w _ o (by rw [h.bytes]; rfl)).trans h.bytes, (World.cell?_alloc_some w _ o (by rw [h.at_]; rfl)).trans h.at_, (World.frozen?_alloc_past o _ _ (World.block_lt_of_cell? w _ h.at_)).trans h.free⟩
theorem take_st (R b off len cap p n : Nat) (w : World) (h : Stands w R (some ⟨b, off, none⟩) len cap p) (hp : p + n ≤ len) (hlc : len ≤ cap) (hl : cap ≤ 9223372036854775807) :
   Calls Try.prog 46 #[.pointer (some ⟨R, 0, none⟩), .int .i64 n] w fun e w' => ∃ o, e = .returned (.slice (some ⟨b, o, none⟩) n n) ∧ (0 < n → o = off + p) ∧ w.grownBy w' (some R) ∧ Stands w' R (some ⟨b, off, none⟩) len cap (p + n) :=
  (take_any R b off len cap p n w h.bytes h.at_ h.free hp hlc hl).mono fun e w' ⟨o, he, ho, nq, hw⟩ => ⟨o, he, ho, by rw [hw]; exact grownBy_setCell w nq R 1 _, by
    subst hw
    refine ⟨(World.cell?_setCell_other _ _ _ _ (by simp)).trans h.bytes, ?_, (World.frozen?_setCell _ _ _ _).trans h.free⟩
    exact (World.cell?_setCell_same (w.drewN nq) _ _ h.at_).trans (by simp)⟩

/-- At the label 'none': a number in another form. -/
def AtNone (R : Nat) (a : Option Addr) (len cap : Nat) (w : World) (r : Nat × Nat × Int) (f : Act) (w' : World) : Prop :=
  (∃ (u0 u1 u2 u3 u4 u5 u6 u7 u8 u9 u10 u11 u12 u13 u14 u15 u16 u17 u18 u19 u20 u21 u22 u23 u24 u25 u26 u27 u28 u29 u30 u31 u32 u33 u34 u35 u36 u37 u38 u39 u40 u41 u42 u43 u44 u45 u46 u47 : Value), f = { tmps := #[u0, u1, u2, u3, u4, u5, u6, u7, u8, u9, u10, u11, u12, u13, u14, u15, u16, u17, u18, u19, u20, u21, u22, u23, u24, u25, u26, u27, u28, u29, u30, u31, u32, u33, u34, u35, u36, u37, u38, u39, u40, u41, u42, u43, u44, u45, u46, u47], defers := [] }) ∧ w.grownBy w' (some R) ∧ (∃ p', p' ≤ len ∧ Stands w' R a len cap p') ∧ r = (0, 0, 111)

set_option maxRecDepth 100000 in
set_option maxHeartbeats 400000 in
theorem reads_number (R : Nat) (a : Option Addr) (len cap p : Nat) (zs : List Int) (w : World) (hR : Stands w R a len cap p) (hz : Bytes w a len zs)
    (hne : 0 < len → ∀ x, a = some x → x.block ≠ R) (hp : p ≤ len) (hlc : len ≤ cap) (hc : cap ≤ 9223372036854775807) :
    Calls Try.prog 36 #[.pointer (some ⟨R, 0, none⟩)] w (NumPost R a len cap p (rd (zs.drop p) 0 0) w) := by
  obtain ⟨hzl, hzb, hzc⟩ := hz
  have HZ : Hid (zs.length = len) := hzl
  have HB := Lib.hid hzb
  have HC := Lib.hid hzc
  have HN := Lib.hid hne
  clear hzl hzb hzc hne
  have HR := Lib.hid hR
  clear hR
  go_enter Try.func36, Try.ntmps36
  go_wp2
  refine wp_scope_jumps 0 (AtNone R a len cap w (rd (zs.drop p) 0 0)) (fun _ _ => 0) rfl ?_ ?_
  · go_wp2
    go_loopg [2, 4] (len - p) (fun k n i wr => ∃ (j m : Nat), n = .int .u64 m ∧ i = .int .i64 j ∧ j ≤ 9 ∧ p + j ≤ len ∧ Hid (k = len - (p + j)) ∧ Hid (m < 128 ^ j) ∧ Hid (rd (zs.drop p) 0 0 = rd (zs.drop (p + j)) j m) ∧ w.grownBy wr (some R) ∧ Hid (Stands wr R a len cap (p + j)))
    case atStart => exact ⟨0, 0, rfl, rfl, by omega, by omega, rfl, show (0 : Nat) < 128 ^ 0 by decide, rfl, World.grownBy.refl _ _, HR.out⟩
    case round =>
      obtain ⟨j, m, rfl, rfl, hj, hpj, hk, hm, hrd, hg, hS⟩ := hrel
      by_cases hlt : p + j < len
      · obtain ⟨b, off, rfl, hcc⟩ := HC.out (by omega)
        have hbR : b ≠ R := HN.out (by omega) _ rfl
        have hcell := hcc (p + j) hlt
        generalize hcv : zs.getD (p + j) 0 = c at hcell
        go_wp2_with fail
        refine (has_yes R _ len cap (p + j) 1 _ hS.out.bytes hS.out.at_ ?_ ?_ ?_).mono ?_
        · omega
        · omega
        · omega
        rintro e w' ⟨rfl, nq, rfl⟩
        go_wp2_with fail
        refine (take_st R b off len cap (p + j) 1 (wr.drewN nq) ⟨hS.out.bytes, hS.out.at_, hS.out.free⟩ ?_ ?_ ?_).mono ?_
        · omega
        · omega
        · omega
        rintro e w' ⟨o, rfl, ho, hg1, hS1⟩
        obtain rfl := ho (by omega)
        have hg2 : w.grownBy w' (some R) := grownBy_trans (grownBy_trans hg (World.grownBy.refl _ _)) ⟨hg1.os, hg1.tape, hg1.output, hg1.size, hg1.block⟩
        have hcw := hg2.cell hcell (by simpa using hbR)
        have HS := Lib.hid hS1
        have HCC := Lib.hid hcc
        have HV := Lib.hid hcv
        have hc0 : 0 ≤ c ∧ c ≤ 255 := by rw [← hcv]; exact byte_at HB.out _
        obtain ⟨hc0, hc1⟩ := hc0
        have hpj1 : p + j + 1 ≤ len := by omega
        clear hcc hcv hcell hg1 hg hS hS1
        have j10 := idx10
        have j7 := idx7
        go_wp2_with (go_at_call 33; refine (wide_any _).mono ?_; rintro e w' ⟨rfl, rfl⟩)
        rotate_left
        · simp only [Exit.jump]
          go_ret2
          go_light
          (try simp only [beq_iff_eq] at *); (try simp only [beq_eq_false_iff_ne] at *)
          obtain rfl : j = 9 := by omega
          have hrd' : rd (zs.drop p) 0 0 = (m + c.toNat % 128 * 128 ^ 9, 9 + 1, 0) := by
            rw [hrd.out, drop_cons (by rw [HZ.out]; omega), HV.out, rd_last (by omega) (by omega)]
          refine ⟨?_, grown_alloc (grown_alloc hg2 _) _, _, hpj1, (HS.out.alloc _).alloc _, ?_⟩
          · rw [hrd']
            have E := join_low9 hc0 (by omega) hm.out; simp [E]
          · rw [hrd']; intro _; show p + 9 + 1 = p + (9 + 1); omega
        rotate_left
        all_goals first
          | (go_step3
             go_light
             simp only [Exit.then, Exit.inBlock, Exit.jump, true_and]
             (try simp only [beq_iff_eq] at *); (try simp only [beq_eq_false_iff_ne] at *)
             refine ⟨⟨_, _, _, _, _, _, _, _, _, _, _, _, _, _, _, _, _, _, _, _, _, _, _, _, _, _, _, _, _, _, _, _, _, _, _, _, _, _, _, _, _, _, _, _, _, _, _, _, rfl⟩, grown_alloc hg2 _, ⟨_, hpj1, HS.out.alloc _⟩, ?_⟩
             rw [hrd.out, drop_cons (by rw [HZ.out]; omega), HV.out, rd_bad (by omega)])
          | (simp only [Exit.jump]
             go_ret2
             go_light
             (try simp only [beq_iff_eq] at *); (try simp only [beq_eq_false_iff_ne] at *)
             have hrd' : rd (zs.drop p) 0 0 = (m + c.toNat % 128 * 128 ^ j, j + 1, 0) := by
               rw [hrd.out, drop_cons (by rw [HZ.out]; omega), HV.out, rd_last (by omega) (by omega)]
             refine ⟨?_, grown_alloc (grown_alloc hg2 _) _, _, hpj1, (HS.out.alloc _).alloc _, ?_⟩
             · rw [hrd']
               first
                 | (have E := join_low hc0 hc1 hm.out hj (fun h => by omega); simp [E])
                 | (obtain rfl : j = 9 := by omega
                    have E := join_low9 hc0 (by omega) hm.out; simp [E])
             · rw [hrd']; intro _; show p + j + 1 = p + (j + 1); omega)
          | (go_roundg (gk - 1)
             case measure => go_light; have := hk.out; omega
             case rel =>
               go_light
               (try simp only [beq_iff_eq] at *); (try simp only [beq_eq_false_iff_ne] at *)
               have E := join_low hc0 hc1 hm.out hj (fun h => by omega)
               refine ⟨j + 1, m + c.toNat % 128 * 128 ^ j, by rw [E], rfl, by omega, by omega, ?_, join_lt (by omega) hm.out, ?_, grown_alloc (grown_alloc hg2 _) _, (HS.out.alloc _).alloc _⟩
               · show gk - 1 = _
                 have := hk.out; omega
               · show rd (zs.drop p) 0 0 = _
                 rw [hrd.out, drop_cons (by rw [HZ.out]; omega), HV.out, rd_more (by omega) (by omega)]; rfl)
      · go_wp2_with fail
        refine (has_no R a len cap (p + j) 1 _ hS.out.bytes hS.out.at_ ?_ ?_ ?_).mono ?_
        · omega
        · omega
        · omega
        rintro e w' ⟨rfl, nq, rfl⟩
        go_wp2
        simp only [Exit.jump]
        go_ret2
        go_light
        obtain rfl : p + j = len := by omega
        refine ⟨?_, grownBy_trans hg ⟨rfl, rfl, rfl, Nat.le_refl _, fun _ _ _ => rfl⟩, _, Nat.le_refl _, ⟨hS.out.bytes, hS.out.at_, hS.out.free⟩, ?_⟩
        · rw [hrd.out, List.drop_of_length_le (by rw [HZ.out]; omega), rd_end]; rfl
        · rw [hrd.out, List.drop_of_length_le (by rw [HZ.out]; omega), rd_end]; intro h; exact absurd h (by decide)
  · rintro f w' ⟨⟨u0, u1, u2, u3, u4, u5, u6, u7, u8, u9, u10, u11, u12, u13, u14, u15, u16, u17, u18, u19, u20, u21, u22, u23, u24, u25, u26, u27, u28, u29, u30, u31, u32, u33, u34, u35, u36, u37, u38, u39, u40, u41, u42, u43, u44, u45, u46, u47, rfl⟩, hg, ⟨p', hp', hS⟩, hr⟩
    have HG := Lib.hid hg
    have HS := Lib.hid hS
    have HRR := Lib.hid hr
    clear hg hS hr
    go_wp2
    simp only [Exit.jump]
    go_ret2
    exact ⟨by rw [HRR.out]; rfl, HG.out, p', hp', HS.out, by rw [HRR.out]; intro h; exact absurd h (by decide)⟩
end Go.Proofs.Ytcdgecdcfpedfaa
