/-
  PROVED: Contracts of octet.Number, Signed, the reader's has and take, of the reference's Number, Signed and twice, and of the law's num and begins. CONDITIONS: a number fits its kind; a slice's length is at most 2^63 - 1.
-/
import Derived.Test.YtcdgecdcfpedfaaProg
import Derived.Test.YtcdgecdcfpedfaaPlain
import Derived.WalkKit
import Derived.WalkSpells
import Derived.WalkLawsBesides
import Derived.Deep.QuietTactic
import Derived.BigQuiet
import Derived.Lib.Hide
import Derived.Lib.Zigzag
import Derived.Lib.QuietBelow
import Derived.Deep.LoopGhost
namespace Go.Proofs.Ytcdgecdcfpedfaa
open Go.RowKit Oc
theorem Try.info5 : (Try.prog.info? 5).map (fun i => (i.zero, i.size, i.bytes)) = some (some (.int .u8 0), 1, 1) := by kernel_rfl
theorem wide_any (w : World) : Calls Try.prog 33 #[] w fun e w' => e = .returned (.agg #[.int .i64 7, .int .i64 10]) ∧ w.alloc (.cells #[.int .i64 7, .int .i64 10] 65) = w' := by
  go_enter Try.func33, Try.ntmps33
  go_wp2
  exact bodyPost_ret (v := .agg #[.int .i64 7, .int .i64 10]) (by simp [results, Try.results33, go_sem]) rfl ⟨rfl, rfl⟩

theorem idx7 : ∀ w, (Instr.index 65 (.agg #[.int .i64 7, .int .i64 10]) (.int .i64 0)).run Try.prog w = .ok (.int .i64 7) w := fun _ => by kernel_rfl
theorem idx10 : ∀ w, (Instr.index 65 (.agg #[.int .i64 7, .int .i64 10]) (.int .i64 1)).run Try.prog w = .ok (.int .i64 10) w := fun _ => by kernel_rfl
/-- A slice of bytes in new memory, of its own. -/
def RowPost (B : Nat) (w : World) (xs : List Int) (e : Ending) (w' : World) : Prop :=
  ∃ v, e = .returned v ∧ w'.ownsRow B 5 1 v xs.length (xs.map (Value.int .u8)) ∧ Below w.heap.size w w'

def TakePost (R b off p n : Nat) (w : World) (e : Ending) (w' : World) : Prop :=
  ∃ o, e = .returned (.slice (some ⟨b, o, none⟩) n n) ∧ (0 < n → o = off + p) ∧ ∃ nq, w' = (w.drewN nq).setCell ⟨R, 1, none⟩ (.int .i64 (p + n))
theorem take_any (R b off len cap p n : Nat) (w : World) (h0 : w.cell? ⟨R, 0, none⟩ = some (.slice (some ⟨b, off, none⟩) len cap)) (h1 : w.cell? ⟨R, 1, none⟩ = some (.int .i64 p)) (hf : w.frozen? ⟨R, 1, none⟩ = false) (hp : p + n ≤ len) (hlc : len ≤ cap) (hl : cap ≤ 9223372036854775807) :
   Calls Try.prog 46 #[.pointer (some ⟨R, 0, none⟩), .int .i64 n] w (TakePost R b off p n w) := by
  by_cases hc : cap ≤ p
  · obtain rfl : n = 0 := by omega
    go_enter Try.func46, Try.ntmps46
    go_wp2
    go_quiet (fail)
    go_wp2
    go_ret
    exact ⟨_, rfl, by omega, _, rfl⟩
  · by_cases hn : n = 0
    · subst hn
      go_enter Try.func46, Try.ntmps46
      go_wp2
      go_quiet (fail)
      go_wp2
      go_ret
      exact ⟨_, rfl, by omega, _, rfl⟩
    · go_enter Try.func46, Try.ntmps46
      go_wp2
      go_quiet (fail)
      go_wp2
      go_ret
      exact ⟨_, by simp [Nat.add_sub_cancel_left], fun _ => rfl, _, rfl⟩
set_option maxRecDepth 100000 in
set_option maxHeartbeats 400000 in
theorem number_any (n : Nat) (hn : n < 18446744073709551616) (w : World) : Calls Try.prog 11 #[.int .u64 n] w (RowPost w.heap.size w (enc n)) := by
  have HN : Hid (n < 18446744073709551616) := hn
  clear hn
  obtain ⟨i0, hi, hz0, hz1, hz2⟩ := info_parts Try.info5
  go_enter Try.func11, Try.ntmps11
  go_wp2
  go_loopw [0, 2] (fun x v wr => ∃ (m : Nat) (done : List Int), x = .int .u64 m ∧ Hid (enc n = done ++ enc m) ∧ m ≤ n ∧ wr.ownsRow w.heap.size 5 1 v done.length (done.map (Value.int .u8)) ∧ Below w.heap.size w wr)
    (fun x _ _ => (intOf x).toNat)
  case atStart => exact ⟨n, [], rfl, rfl, Nat.le_refl _, World.ownsRow_nil _ _ _ _, Below.refl _ _⟩
  case round =>
    obtain ⟨m, done, rfl, henc, hm, hown, hb⟩ := hrel
    have hl : done.length < 10 := by have h1 := enc_len10 HN.out; have h2 := enc_pos m; rw [henc.out, List.length_append] at h1; omega
    by_cases h : m < 128
    · go_wp2_with (at_builtin; go_loud (refine wpList_append_own _ rfl _ _ 23 rfl w.heap.size 5 i0 (.int .u8 0) 1 1 Try.underlying23 hi hz0 hz1 hz2 rfl (by decide) _ _ _ rfl (hown.alloc _) ⟨wr.heap.size, 0, none⟩ 1 1 [.int .u8 m] rfl rfl (cell_one_new _ _ _) (by simp [Value.oneCell']) ?c3 ?c4 ?c5 ?_))
      case c3 => unfold maxLen; omega
      case c4 => omega
      case c5 => have := hb.size; simp; omega
      intro v' w1 hown' hgrow _
      go_wp2
      go_ret
      refine ⟨_, rfl, ?_, (hb.alloc hb.size _).grown hgrow (by have := hb.size; simp; omega) (fun k hk => (hown.lt k hk).1)⟩
      rw [henc.out, enc_lt h]
      simpa using hown'
    · go_wp2_with (at_builtin; go_loud (refine wpList_append_own _ rfl _ _ 23 rfl w.heap.size 5 i0 (.int .u8 0) 1 1 Try.underlying23 hi hz0 hz1 hz2 rfl (by decide) _ _ _ rfl (hown.alloc _) ⟨wr.heap.size, 0, none⟩ 1 1 [.int .u8 (bits BinOp.or IntKind.u8 ((m : Int) % 256) 128)] rfl rfl (cell_one_new _ _ _) (by simp [Value.oneCell']) ?c3 ?c4 ?c5 ?_))
      case c3 => unfold maxLen; omega
      case c4 => omega
      case c5 => have := hb.size; simp; omega
      intro v' w1 hown' hgrow _
      have hb1 := (hb.alloc hb.size _).grown hgrow (by have := hb.size; simp; omega) (fun k hk => (hown.lt k hk).1)
      have hz1 := hb1.size
      clear hgrow hown hb
      have j7 := idx7
      go_wp2_with (go_at_call 33; refine (wide_any _).mono ?_; rintro e w' ⟨rfl, rfl⟩)
      go_roundw
      case rel =>
        refine ⟨m / 128, done ++ [((128 + m % 128 : Nat) : Int)], rfl, ?_, by omega, ?_, hb1.alloc hb1.size _⟩
        · show enc n = _
          rw [henc.out, enc_ge (by omega)]; simp
        · have e : bits BinOp.or IntKind.u8 ((m : Int) % 256) 128 = ((128 + m % 128 : Nat) : Int) := by rw [or_more (by omega) (by omega)]; omega
          rw [e] at hown'
          simpa using hown'.alloc _
      case measure => simp [intOf]; omega
set_option maxRecDepth 100000 in
set_option maxHeartbeats 400000 in
theorem refNumber_any (n : Nat) (hn : n < 18446744073709551616) (w : World) : Calls Try.prog 13 #[.int .u64 n] w (RowPost w.heap.size w (enc n)) := by
  have HN : Hid (n < 18446744073709551616) := hn
  clear hn
  obtain ⟨i0, hi, hz0, hz1, hz2⟩ := info_parts Try.info5
  go_enter Try.func13, Try.ntmps13
  go_wp2
  go_loopw [0, 3] (fun x v wr => ∃ (m : Nat) (done : List Int), x = .int .u64 m ∧ Hid (enc n = done ++ enc m) ∧ m ≤ n ∧ wr.ownsRow w.heap.size 5 1 v done.length (done.map (Value.int .u8)) ∧ Below w.heap.size w wr)
    (fun x _ _ => (intOf x).toNat)
  case atStart => exact ⟨n, [], rfl, rfl, Nat.le_refl _, World.ownsRow_nil _ _ _ _, Below.refl _ _⟩
  case round =>
    obtain ⟨m, done, rfl, henc, hm, hown, hb⟩ := hrel
    have hl : done.length < 10 := by have h1 := enc_len10 HN.out; have h2 := enc_pos m; rw [henc.out, List.length_append] at h1; omega
    by_cases h : m < 128
    · go_wp2_with (at_builtin; go_loud (refine wpList_append_own _ rfl _ _ 23 rfl w.heap.size 5 i0 (.int .u8 0) 1 1 Try.underlying23 hi hz0 hz1 hz2 rfl (by decide) _ _ _ rfl (hown.alloc _) ⟨wr.heap.size, 0, none⟩ 1 1 [.int .u8 m] rfl rfl (cell_one_new _ _ _) (by simp [Value.oneCell']) ?c3 ?c4 ?c5 ?_))
      case c3 => unfold maxLen; omega
      case c4 => omega
      case c5 => have := hb.size; simp; omega
      intro v' w1 hown' hgrow _
      go_wp2
      go_ret
      refine ⟨_, rfl, ?_, (hb.alloc hb.size _).grown hgrow (by have := hb.size; simp; omega) (fun k hk => (hown.lt k hk).1)⟩
      rw [henc.out, enc_lt h]
      simpa using hown'
    · go_wp2_with (at_builtin; go_loud (refine wpList_append_own _ rfl _ _ 23 rfl w.heap.size 5 i0 (.int .u8 0) 1 1 Try.underlying23 hi hz0 hz1 hz2 rfl (by decide) _ _ _ rfl (hown.alloc _) ⟨wr.heap.size, 0, none⟩ 1 1 [.int .u8 (128 + (m : Int) % 128)] rfl rfl (cell_one_new _ _ _) (by simp [Value.oneCell']) ?c3 ?c4 ?c5 ?_))
      case c3 => unfold maxLen; omega
      case c4 => omega
      case c5 => have := hb.size; simp; omega
      intro v' w1 hown' hgrow _
      have hb1 := (hb.alloc hb.size _).grown hgrow (by have := hb.size; simp; omega) (fun k hk => (hown.lt k hk).1)
      have ew : IntKind.u64.wrap ((m : Int) / 128) = ((m / 128 : Nat) : Int) := by
        rw [IntKind.wrap_u64]; have := HN.out; omega
      clear hgrow hown hb
      go_wp2
      go_roundw
      case rel =>
        refine ⟨m / 128, done ++ [((128 + m % 128 : Nat) : Int)], rfl, ?_, by omega, ?_, hb1⟩
        · show enc n = _
          rw [henc.out, enc_ge (by omega)]; simp
        · simpa using hown'
      case measure => simp [intOf]; omega


theorem num_any (n : Int) (w : World) : Calls Try.prog 17 #[.int .i64 n] w fun e w' => e = .returned (.int .i64 n) ∧ w = w' := by
  go_enter Try.func17, Try.ntmps17
  go_wp2
  go_ret
  exact ⟨rfl, rfl⟩

theorem has_any (R : Nat) (a : Option Addr) (len cap : Nat) (p : Nat) (n : Int) (w : World) (h0 : w.cell? ⟨R, 0, none⟩ = some (.slice a len cap)) (h1 : w.cell? ⟨R, 1, none⟩ = some (.int .i64 p)) (hp : p ≤ len) (hl : len ≤ 9223372036854775807) :
   Calls Try.prog 45 #[.pointer (some ⟨R, 0, none⟩), .int .u64 n] w fun e w' => e = .returned (.bool (decide (n ≤ (len : Int) - p))) ∧ ∃ nq, w' = w.drewN nq := by
  go_enter Try.func45, Try.ntmps45
  go_wp2
  go_quiet (fail)
  go_wp2
  go_ret
  exact ⟨rfl, _, rfl⟩

theorem signed_any (n : Int) (h0 : -9223372036854775808 ≤ n) (h1 : n ≤ 9223372036854775807) (w : World) : Calls Try.prog 12 #[.int .i64 n] w (RowPost w.heap.size w (enc (Lib.zigzag n))) := by
  have hz := Lib.zigzag_lt h0 h1
  have E := Lib.hid (zig_signed h0 h1)
  have HZ := Lib.hid hz
  clear h0 h1 hz
  go_enter Try.func12, Try.ntmps12
  go_wp2_with fail
  rw [E.out]
  refine (number_any _ HZ.out _).mono ?_
  rintro e w' ⟨v, rfl, ho, hb⟩
  go_wp2
  go_ret
  exact ⟨_, rfl, ho, hb⟩

theorem twice_any (n : Int) (h0 : -9223372036854775808 ≤ n) (h1 : n ≤ 9223372036854775807) (w : World) : Calls Try.prog 34 #[.int .i64 n] w fun e w' => e = .returned (.int .u64 (Lib.zigzag n)) ∧ w = w' := by
  by_cases h : n < 0
  · have E := Lib.hid (zig_twice_neg h0 h)
    clear h0 h1
    go_enter Try.func34, Try.ntmps34
    go_wp2
    go_ret
    exact ⟨by simp [E.out], rfl⟩
  · have E := Lib.hid (zig_twice_pos h1 (by omega))
    clear h0 h1
    go_enter Try.func34, Try.ntmps34
    go_wp2
    go_ret
    exact ⟨by simp [E.out], rfl⟩

theorem refSigned_any (n : Int) (h0 : -9223372036854775808 ≤ n) (h1 : n ≤ 9223372036854775807) (w : World) : Calls Try.prog 14 #[.int .i64 n] w (RowPost w.heap.size w (enc (Lib.zigzag n))) := by
  have hz := Lib.zigzag_lt h0 h1
  have H0 := Lib.hid h0
  have H1 := Lib.hid h1
  have HZ := Lib.hid hz
  clear h0 h1 hz
  go_enter Try.func14, Try.ntmps14
  go_wp2_with fail
  refine (twice_any _ H0.out H1.out _).mono ?_
  rintro e w' ⟨rfl, rfl⟩
  go_wp2_with fail
  refine (refNumber_any _ HZ.out _).mono ?_
  rintro e w' ⟨v, rfl, ho, hb⟩
  go_wp2
  go_ret
  exact ⟨_, rfl, ho, hb⟩

/-- Does one of two texts begin the other one? -/
def begs (a b : ByteArray) : Bool := if b.size < a.size then (a.extract 0 b.size).toList == b.toList else a.toList == (b.extract 0 a.size).toList
theorem begins_any (a b : ByteArray) (ha : a.size ≤ 9223372036854775807) (hb : b.size ≤ 9223372036854775807) (w : World) : Calls Try.prog 31 #[.string a, .string b] w fun e w' => e = .returned (.bool (begs a b)) ∧ ∃ nq, w' = w.drewN nq := by
  by_cases h : b.size < a.size
  · have E : Hid (begs a b = ((a.extract 0 b.size).toList == b.toList)) := if_pos h
    go_enter Try.func31, Try.ntmps31
    go_wp2
    go_quiet (fail)
    go_wp2
    go_ret
    exact ⟨by rw [E.out]; rfl, _, rfl⟩
  · have E : Hid (begs a b = (a.toList == (b.extract 0 a.size).toList)) := if_neg h
    go_enter Try.func31, Try.ntmps31
    go_wp2
    go_quiet (fail)
    go_wp2
    go_ret
    exact ⟨by rw [E.out]; rfl, _, rfl⟩
end Go.Proofs.Ytcdgecdcfpedfaa
