/-
  PROVED: Plain laws on numbers' bytes ('enc', 'rd', 'zigzag'), with no program in sight. CONDITIONS: those that each theorem names.
-/
import Derived.WalkKit
import Derived.Laws.BytesArg
import Derived.Lib.Zigzag
namespace Go.Proofs.Ytcdgecdcfpedfaa
open Go.RowKit
namespace Oc

/-- A number's bytes: seven bits a byte, the least first; 128 is added to all but the last. -/
def enc (n : Nat) : List Int := if n < 128 then [(n : Int)] else ((128 + n % 128 : Nat) : Int) :: enc (n / 128)
termination_by n
decreasing_by omega

theorem enc_lt {n : Nat} (h : n < 128) : enc n = [(n : Int)] := by rw [enc, if_pos h]
theorem enc_ge {n : Nat} (h : 128 ≤ n) : enc n = ((128 + n % 128 : Nat) : Int) :: enc (n / 128) := by rw [enc, if_neg (by omega)]
theorem enc_pos (n : Nat) : 0 < (enc n).length := by
  by_cases h : n < 128
  · rw [enc_lt h]; simp
  · rw [enc_ge (by omega)]; simp
theorem enc_len : ∀ (k n : Nat), n < 128 ^ (k + 1) → (enc n).length ≤ k + 1
  | 0, n, h => by rw [enc_lt (by simpa using h)]; simp
  | k + 1, n, h => by
    by_cases h1 : n < 128
    · rw [enc_lt h1]; simp
    · rw [enc_ge (by omega)]
      have : n / 128 < 128 ^ (k + 1) := by
        rw [Nat.div_lt_iff_lt_mul (by omega)]
        rw [Nat.pow_succ] at h; exact h
      have := enc_len k (n / 128) this
      simp; omega
theorem enc_len10 {n : Nat} (h : n < 18446744073709551616) : (enc n).length ≤ 10 := enc_len 9 n (Nat.lt_of_lt_of_le h (by decide))
theorem enc_byte : ∀ (k n : Nat), n < 128 ^ (k + 1) → ∀ x ∈ enc n, 0 ≤ x ∧ x ≤ 255
  | 0, n, h, x, hx => by rw [enc_lt (by simpa using h)] at hx; simp at hx h; omega
  | k + 1, n, h, x, hx => by
    by_cases h1 : n < 128
    · rw [enc_lt h1] at hx; simp at hx; omega
    · rw [enc_ge (by omega)] at hx
      have h2 : n / 128 < 128 ^ (k + 1) := by
        rw [Nat.div_lt_iff_lt_mul (by omega)]
        rw [Nat.pow_succ] at h; exact h
      rcases List.mem_cons.1 hx with rfl | hx
      · omega
      · exact enc_byte k (n / 128) h2 x hx
theorem or128 : ∀ x : Fin 256, bits BinOp.or IntKind.u8 (x : Int) 128 = 128 + (x : Int) % 128 := by decide +kernel
theorem or_more {x : Int} (h0 : 0 ≤ x) (h1 : x ≤ 255) : bits BinOp.or IntKind.u8 x 128 = 128 + x % 128 := by
  have := or128 ⟨x.toNat, by omega⟩
  simpa [Int.toNat_of_nonneg h0] using this

open Lib (zigzag)
theorem zig_signed {n : Int} (h0 : -9223372036854775808 ≤ n) (h1 : n ≤ 9223372036854775807) :
    bits BinOp.xor IntKind.u64 (IntKind.u64.wrap (IntKind.u64.wrap n * 2)) (IntKind.u64.wrap (n / 9223372036854775808)) = ((zigzag n : Nat) : Int) := by
  by_cases h : 0 ≤ n
  · have e1 : n / 9223372036854775808 = 0 := by omega
    have e2 : IntKind.u64.wrap (IntKind.u64.wrap n * 2) = ((n.toNat * 2 : Nat) : Int) := by rw [IntKind.wrap_u64, IntKind.wrap_u64]; omega
    have e3 : IntKind.u64.wrap 0 = ((0 : Nat) : Int) := by decide
    rw [e1, e2, e3, bits_xor_u64_nat _ _ (by omega) (by decide), Nat.xor_zero]
    unfold Lib.zigzag; rw [if_pos h]; omega
  · have e1 : n / 9223372036854775808 = -1 := by omega
    have e2 : IntKind.u64.wrap (-1) = ((2 ^ 64 - 1 : Nat) : Int) := by decide
    have e3 : IntKind.u64.wrap (IntKind.u64.wrap n * 2) = (((2 * n + 18446744073709551616).toNat : Nat) : Int) := by
      rw [IntKind.wrap_u64, IntKind.wrap_u64]; omega
    rw [e1, e2, e3, bits_xor_u64_nat _ _ (by omega) (by decide), Nat.xor_comm, Lib.xor_ones64 _ (by omega)]
    unfold Lib.zigzag; rw [if_neg h]; omega
theorem zig_twice_neg {n : Int} (h0 : -9223372036854775808 ≤ n) (h : n < 0) :
    IntKind.u64.wrap (IntKind.u64.wrap (2 * IntKind.u64.wrap (wrap64 (-1 - n))) + 1) = ((zigzag n : Nat) : Int) := by
  unfold wrap64 Lib.zigzag
  rw [if_neg (by omega), IntKind.wrap_u64, IntKind.wrap_u64, IntKind.wrap_u64]; omega
theorem zig_twice_pos {n : Int} (h1 : n ≤ 9223372036854775807) (h : 0 ≤ n) :
    IntKind.u64.wrap (2 * IntKind.u64.wrap n) = ((zigzag n : Nat) : Int) := by
  unfold Lib.zigzag
  rw [if_pos h, IntKind.wrap_u64, IntKind.wrap_u64]; omega
theorem andNot128 : ∀ x : Fin 256, bits BinOp.andNot IntKind.u8 (x : Int) 128 = (x : Int) % 128 := by decide +kernel
theorem less_more {x : Int} (h0 : 0 ≤ x) (h1 : x ≤ 255) : bits BinOp.andNot IntKind.u8 x 128 = x % 128 := by
  have := andNot128 ⟨x.toNat, by omega⟩
  simpa [Int.toNat_of_nonneg h0] using this
theorem pow128 (j : Nat) : 128 ^ j = 2 ^ (7 * j) := by rw [Nat.pow_mul]
theorem part_lt {j c : Nat} (hj : j ≤ 9) (hc : c < 128) (h9 : j = 9 → c ≤ 1) : c * 128 ^ j ≤ 9223372036854775808 := by
  by_cases h : j = 9
  · have := h9 h
    subst h
    calc c * 128 ^ 9 ≤ 1 * 128 ^ 9 := Nat.mul_le_mul_right _ this
      _ ≤ _ := by decide
  · have h1 : 128 ^ j ≤ 128 ^ 8 := Nat.pow_le_pow_right (by decide) (by omega)
    calc c * 128 ^ j ≤ 128 * 128 ^ 8 := Nat.mul_le_mul (by omega) h1
      _ ≤ _ := by decide
theorem pow_le {j : Nat} (hj : j ≤ 9) : 128 ^ j ≤ 9223372036854775808 := by
  have h1 : 128 ^ j ≤ 128 ^ 9 := Nat.pow_le_pow_right (by decide) hj
  exact Nat.le_trans h1 (by decide)
/-- A byte's seven bits, laid before those that were read. -/
theorem join_low {m j : Nat} {c : Int} (h0 : 0 ≤ c) (h1 : c ≤ 255) (hm : m < 128 ^ j) (hj : j ≤ 9) (h9 : j = 9 → c ≤ 1) :
    bits BinOp.or IntKind.u64 (m : Int) (IntKind.u64.wrap (IntKind.u64.wrap (bits BinOp.andNot IntKind.u8 c 128) * 2 ^ (7 * j))) = ((m + c.toNat % 128 * 128 ^ j : Nat) : Int) := by
  have hp := part_lt (c := c.toNat % 128) hj (by omega) (fun h => by have := h9 h; omega)
  have hq := pow_le hj
  have e0 : ((c.toNat % 128 : Nat) : Int) = c % 128 := by omega
  have e1 : IntKind.u64.wrap (c % 128) = ((c.toNat % 128 : Nat) : Int) := by rw [IntKind.wrap_u64]; omega
  have e2 : ((c.toNat % 128 : Nat) : Int) * 2 ^ (7 * j) = ((c.toNat % 128 * 128 ^ j : Nat) : Int) := by
    rw [pow128]; simp
  have e3 : IntKind.u64.wrap ((c.toNat % 128 * 128 ^ j : Nat) : Int) = ((c.toNat % 128 * 128 ^ j : Nat) : Int) := by
    rw [IntKind.wrap_u64]; omega
  rw [less_more h0 h1, e1, e2, e3, u64_or_nat _ _ (by omega) (by omega)]
  congr 1
  rw [Nat.or_comm, Nat.mul_comm, pow128, ← Nat.two_pow_add_eq_or_of_lt (by rw [← pow128]; exact hm), Nat.add_comm]
theorem join_low9 {m : Nat} {c : Int} (h0 : 0 ≤ c) (h1 : c ≤ 1) (hm : m < 128 ^ 9) :
    bits BinOp.or IntKind.u64 (m : Int) (IntKind.u64.wrap (IntKind.u64.wrap (bits BinOp.andNot IntKind.u8 c 128) * 9223372036854775808)) = ((m + c.toNat % 128 * 128 ^ 9 : Nat) : Int) :=
  join_low (j := 9) h0 (by omega) hm (by omega) (fun _ => h1)
theorem join_lt {m j : Nat} {c : Nat} (hc : c < 128) (hm : m < 128 ^ j) : m + c * 128 ^ j < 128 ^ (j + 1) := by
  rw [Nat.pow_succ]
  have : c * 128 ^ j ≤ 127 * 128 ^ j := Nat.mul_le_mul_right _ (by omega)
  omega

/-- What a reader reads: its bytes left, how many it has taken of this number, and what these tell: the number, how many bytes it has, an error's number. -/
def rd : List Int → Nat → Nat → Nat × Nat × Int
  | [], _, _ => (0, 0, 110)
  | c :: t, i, n => if (i = 9 ∧ 1 < c) ∨ (0 < i ∧ c = 0) then (0, 0, 111) else if c < 128 then (n + c.toNat % 128 * 128 ^ i, i + 1, 0) else rd t (i + 1) (n + c.toNat % 128 * 128 ^ i)
theorem rd_end {i n : Nat} : rd [] i n = (0, 0, 110) := rfl
theorem rd_bad {c : Int} {t : List Int} {i n : Nat} (h : (i = 9 ∧ 1 < c) ∨ (0 < i ∧ c = 0)) : rd (c :: t) i n = (0, 0, 111) := by rw [rd, if_pos h]
theorem rd_last {c : Int} {t : List Int} {i n : Nat} (h : ¬ ((i = 9 ∧ 1 < c) ∨ (0 < i ∧ c = 0))) (hc : c < 128) : rd (c :: t) i n = (n + c.toNat % 128 * 128 ^ i, i + 1, 0) := by rw [rd, if_neg h, if_pos hc]
theorem rd_more {c : Int} {t : List Int} {i n : Nat} (h : ¬ ((i = 9 ∧ 1 < c) ∨ (0 < i ∧ c = 0))) (hc : ¬ c < 128) : rd (c :: t) i n = rd t (i + 1) (n + c.toNat % 128 * 128 ^ i) := by rw [rd, if_neg h, if_neg hc]
/-- What is read is at most as much as there is; it is a number; its error is one of three. -/
theorem rd_fits : ∀ (l : List Int) (i n : Nat), (∀ x ∈ l, 0 ≤ x ∧ x ≤ 255) → i ≤ 9 → n < 128 ^ i →
    (rd l i n).1 < 18446744073709551616 ∧ (rd l i n).2.1 ≤ i + l.length ∧ ((rd l i n).2.2 = 0 ∨ (rd l i n).2.2 = 110 ∨ (rd l i n).2.2 = 111) ∧ ((rd l i n).2.2 ≠ 0 → (rd l i n).1 = 0 ∧ (rd l i n).2.1 = 0) ∧ ((rd l i n).2.2 = 0 → 0 < (rd l i n).2.1)
  | [], i, n, _, _, _ => by simp [rd]
  | c :: t, i, n, hb, hi, hn => by
    by_cases h : (i = 9 ∧ 1 < c) ∨ (0 < i ∧ c = 0)
    · rw [rd_bad h]; simp
    · have hc := hb c (by simp)
      have hp := part_lt (c := c.toNat % 128) hi (by omega) (fun h' => by omega)
      have hq := pow_le hi
      by_cases h1 : c < 128
      · rw [rd_last h h1]; simp; omega
      · have h9 : i ≤ 8 := by omega
        rw [rd_more h h1]
        have := rd_fits t (i + 1) (n + c.toNat % 128 * 128 ^ i) (fun x hx => hb x (by simp [hx])) (by omega) (join_lt (by omega) hn)
        simp only [List.length_cons]
        refine ⟨this.1, by omega, this.2.2.1, this.2.2.2⟩
theorem drop_cons {zs : List Int} {k : Nat} (h : k < zs.length) : zs.drop k = zs.getD k 0 :: zs.drop (k + 1) := by
  rw [List.drop_eq_getElem_cons h]; simp [h]
theorem byte_at {zs : List Int} (h : ∀ x ∈ zs, 0 ≤ x ∧ x ≤ 255) (k : Nat) : 0 ≤ zs.getD k 0 ∧ zs.getD k 0 ≤ 255 := by
  by_cases hk : k < zs.length
  · have := h (zs[k]) (List.getElem_mem hk)
    simpa [List.getD, List.getElem?_eq_getElem hk] using this
  · simp [List.getD, List.getElem?_eq_none (Nat.le_of_not_lt hk)]
/-- A signed number that a number was. -/
def unzig (n : Nat) : Int := if n % 2 = 1 then -1 - ((n / 2 : Nat) : Int) else ((n / 2 : Nat) : Int)
theorem xor_comm_i64 (a b : Int) : bits BinOp.xor IntKind.i64 a b = bits BinOp.xor IntKind.i64 b a := by
  show IntKind.i64.wrap ((BitVec.ofInt 64 a ^^^ BitVec.ofInt 64 b).toNat : Int) = IntKind.i64.wrap ((BitVec.ofInt 64 b ^^^ BitVec.ofInt 64 a).toNat : Int)
  rw [BitVec.xor_comm]
theorem xor_zero_i64 (a : Nat) (h : a < 9223372036854775808) : bits BinOp.xor IntKind.i64 (a : Int) 0 = a := by
  show IntKind.i64.wrap ((BitVec.ofInt 64 (a : Int) ^^^ BitVec.ofInt 64 0).toNat : Int) = a
  rw [show BitVec.ofInt 64 0 = 0#64 from rfl, BitVec.xor_zero, BitVec.ofInt_natCast, BitVec.toNat_ofNat, Nat.mod_eq_of_lt (by omega), IntKind.wrap_i64]
  omega
theorem unzig_xor {n : Nat} (hn : n < 18446744073709551616) :
    bits BinOp.xor IntKind.i64 (wrap64 ((n : Int) / 2)) (wrap64 (-wrap64 (bits BinOp.and IntKind.u64 (n : Int) 1))) = unzig n := by
  rw [Lib.u64_and1 _ (by omega) (by omega)]
  have e : wrap64 ((n : Int) / 2) = ((n / 2 : Nat) : Int) := by unfold wrap64; omega
  rw [e]
  unfold unzig
  by_cases h : n % 2 = 1
  · rw [if_pos h, show (n : Int) % 2 = 1 by omega, show wrap64 (-wrap64 1) = -1 by unfold wrap64; decide, xor_comm_i64, Lib.i64_not _ (by omega)]; omega
  · rw [if_neg h, show (n : Int) % 2 = 0 by omega, show wrap64 (-wrap64 0) = 0 by unfold wrap64; decide, xor_zero_i64 _ (by omega)]
theorem unzig_odd {n : Nat} (hn : n < 18446744073709551616) (h : n % 2 = 1) : wrap64 (-1 - wrap64 (IntKind.u64.wrap ((n : Int) / 2))) = unzig n := by
  unfold unzig wrap64
  rw [if_pos h, IntKind.wrap_u64]; omega
theorem unzig_even {n : Nat} (hn : n < 18446744073709551616) (h : ¬ n % 2 = 1) : wrap64 (IntKind.u64.wrap ((n : Int) / 2)) = unzig n := by
  unfold unzig wrap64
  rw [if_neg h, IntKind.wrap_u64]; omega
theorem unzig_zig {m : Int} : unzig (Lib.zigzag m) = m := by
  unfold unzig Lib.zigzag
  split <;> split <;> omega
theorem signed_eq {a a' b c : Int} (h : a = a') : Ending.returned (.tuple #[.int .i64 a, .int .i64 b, .int .i64 c]) = Ending.returned (.tuple #[.int .i64 a', .int .i64 b, .int .i64 c]) := by rw [h]
end Oc
end Go.Proofs.Ytcdgecdcfpedfaa
