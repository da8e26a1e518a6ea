/-
  PROVED: The walk of the law OctetNumbers: it returns true and leaves what was there as it was. CONDITIONS: the slice came in; each number fits its kind.
-/
import Derived.Test.YtcdgecdcfpedfaaR
import Derived.Deep.DeepCutAuto
namespace Go.Proofs.Ytcdgecdcfpedfaa
open Go.RowKit Oc
/-- What is read of a number's bytes is the number. -/
theorem rd_enc : ∀ (n i acc : Nat) (t : List Int), i ≤ 9 → n * 128 ^ i < 18446744073709551616 → (0 < i → 0 < n) → rd (enc n ++ t) i acc = (acc + n * 128 ^ i, i + (enc n).length, 0) := by
  intro n
  induction n using Nat.strongRecOn with
  | _ n ih =>
    intro i acc t hi hn h0
    by_cases h : n < 128
    · rw [enc_lt h]
      have h9 : i = 9 → n ≤ 1 := by
        intro h9; subst h9
        rw [show (128 : Nat) ^ 9 = 9223372036854775808 by decide] at hn; omega
      rw [List.singleton_append, rd_last (by omega) (by omega)]
      have : (n : Int).toNat % 128 = n := by omega
      rw [this]; simp
    · rw [enc_ge (by omega), List.cons_append]
      have h9 : i ≠ 9 := by
        intro h9; subst h9
        rw [show (128 : Nat) ^ 9 = 9223372036854775808 by decide] at hn; omega
      rw [rd_more (by omega) (by omega)]
      have e : (((128 + n % 128 : Nat) : Int)).toNat % 128 = n % 128 := by omega
      have hm : n / 128 * 128 ^ (i + 1) + n % 128 * 128 ^ i = n * 128 ^ i := by
        rw [Nat.pow_succ, Nat.mul_comm (128 ^ i) 128, ← Nat.mul_assoc, ← Nat.add_mul]
        congr 1; omega
      rw [e, ih (n / 128) (by omega) (i + 1) _ t (by omega) (by omega) (by omega)]
      simp only [List.length_cons, Prod.mk.injEq, and_true]
      constructor <;> omega
theorem rd_enc0 {n : Nat} (hn : n < 18446744073709551616) (t : List Int) : rd (enc n ++ t) 0 0 = (n, (enc n).length, 0) := by
  rw [rd_enc n 0 0 t (by omega) (by simpa using hn) (by omega)]; simp
theorem enc_fits (n : Nat) : ∀ x ∈ enc n, 0 ≤ x ∧ x ≤ 255 := by
  induction n using Nat.strongRecOn with
  | _ n ih =>
    intro x hx
    by_cases h : n < 128
    · rw [enc_lt h] at hx
      obtain rfl := List.mem_singleton.1 hx
      omega
    · rw [enc_ge (by omega)] at hx
      rcases List.mem_cons.1 hx with rfl | hx
      · omega
      · exact ih _ (by omega) x hx
/-- A row of bytes, as bytes. -/
theorem row_bytes {w : World} {B g cp : Nat} {xs : List Int} (h : w.ownsRow B 5 1 (.slice (some ⟨g, 0, none⟩) xs.length cp) xs.length (xs.map (Value.int .u8))) (hx : ∀ x ∈ xs, 0 ≤ x ∧ x ≤ 255) : Bytes w (some ⟨g, 0, none⟩) xs.length xs :=
  ⟨rfl, hx, fun _ => ⟨g, 0, rfl, fun i hi => by
    rw [Nat.zero_add, h.cellAt i (by omega)]
    simp [hi, List.getD]⟩⟩
theorem row_bytes_eq {w : World} {B g cp n : Nat} {xs : List Int} {ys : List Value} (h : w.ownsRow B 5 1 (.slice (some ⟨g, 0, none⟩) n cp) n ys) (hn : n = xs.length) (hy : ys = xs.map (Value.int .u8)) (hx : ∀ x ∈ xs, 0 ≤ x ∧ x ≤ 255) : Bytes w (some ⟨g, 0, none⟩) n xs := by
  subst hn hy; exact row_bytes h hx
theorem bytes_two {xs ys : List Int} (hx : ∀ x ∈ xs, 0 ≤ x ∧ x ≤ 255) (hy : ∀ x ∈ ys, 0 ≤ x ∧ x ≤ 255) : ∀ x ∈ xs ++ ys, 0 ≤ x ∧ x ≤ 255 := by
  intro x h
  rcases List.mem_append.1 h with h | h
  · exact hx x h
  · exact hy x h
/-- BEGIN (printed by genS.py) -/
theorem two_below {w a b c : World} {B : Nat} (h : Below B w a) (hB : B ≤ a.heap.size) (h4 : Below a.drew.heap.size a.drew b) (h5 : Below b.heap.size b c) : Below a.heap.size a c := by
  have e1 : Below a.heap.size a b := ⟨h4.os, h4.tape, h4.output, h4.size, h4.block⟩
  exact e1.trans (h5.mono e1.size)
set_option maxRecDepth 100000 in
set_option maxHeartbeats 4000000 in
theorem numbers_law (n : Nat) (m : Int) (a : Option Addr) (len cap : Nat) (zs : List Int) (w : World) (h : CameIn w a len cap zs) (hn0 : n < 18446744073709551616) (hm0 : -9223372036854775808 ≤ m) (hm1 : m ≤ 9223372036854775807) :
    Calls Try.prog 3 #[.int .u64 n, .int .i64 m, .slice a len cap] w fun e w' => e = .returned (.bool true) ∧ Below w.heap.size w w' := by
  obtain ⟨hz, hn, hlc, hc⟩ := h
  have HZ := Lib.hid hz
  have HNN := Lib.hid hn
  have HL := Lib.hid hz.1
  have HN := Lib.hid hn0
  have HM0 := Lib.hid hm0
  have HM1 := Lib.hid hm1
  have HZZ := Lib.hid (Lib.zigzag_lt hm0 hm1)
  have HE1 := Lib.hid (enc_len10 hn0)
  have HE2 := Lib.hid (enc_len10 (Lib.zigzag_lt hm0 hm1))
  clear hz hn hm0 hm1 hn0
  obtain ⟨i0, hi, hz0, hz1, hz2⟩ := info_parts Try.info5
  by_cases hl : (200 : Int) < (len : Int)
  · go_enter Try.func3, Try.ntmps3
    go_wp2_with fail
    refine (works_any _).mono ?_
    rintro e w1 ⟨rfl, hb⟩
    have HB := Lib.hid hb
    clear hb
    go_wp2
    go_ret
    exact ⟨rfl, HB.out⟩
  · go_enter Try.func3, Try.ntmps3
    go_wp2_with fail
    refine (number_any n HN.out _).mono ?_
    rintro e w7 ⟨v7, rfl, ho7, hb7⟩
    obtain ⟨g7, cp7, rfl, -, hc7, hm7⟩ := row_addr ho7 (enc_pos _)
    unfold maxLen at hm7
    have HO7a := Lib.hid ho7
    have HB7 := Lib.hid hb7
    clear ho7 hb7
    go_wp2_with fail
    refine (signed_any m HM0.out HM1.out _).mono ?_
    rintro e w8 ⟨v8, rfl, ho8, hb8⟩
    obtain ⟨g8, cp8, rfl, -, hc8, hm8⟩ := row_addr ho8 (enc_pos _)
    unfold maxLen at hm8
    have HO7 := Lib.hid (row_kept HO7a.out hb8)
    have HO8 := Lib.hid ho8
    have HB8 := Lib.hid (HB7.out.trans (hb8.mono HB7.out.size))
    clear ho8 hb8 HO7a
    go_upto_region 4 with fail
    go_cut [36] (fun s36 wx => s36 = .bool false ∧ Below w8.heap.size w8 wx)
    case first =>
      have h7d := row_text' HO7.out.drew
      have h8d := row_text' HO8.out.drew
      refine wp_region_any (by kernel_rfl) ?_
      change wpAny _ _ _ _ _ _ _ (World.drew _)
      refine wpAny_take (i := 0) (oi := ⟨some 23, _, _, _, _, _⟩) (v := ?_) rfl (by kernel_rfl) (by kernel_rfl) (by kernel_rfl) (fun _ _ _ h => h) (Or.inl ⟨by rfl, ?_⟩) ?_
      rotate_left
      · intro W; go_simp; with_reducible rfl
      (try simp only [Act.put, List.setIfInBounds_toArray, List.set_cons_zero, List.set_cons_succ])
      refine wpAny_take (i := 2) (oi := ⟨some 25, _, _, _, _, _⟩) (v := ?_) rfl (by kernel_rfl) (by kernel_rfl) (by kernel_rfl) (fun _ _ _ h => h) (Or.inl ⟨by rfl, ?_⟩) ?_
      rotate_left
      · intro W; go_simp; with_reducible rfl
      (try simp only [Act.put, List.setIfInBounds_toArray, List.set_cons_zero, List.set_cons_succ])
      refine wpAny_ready (rs := [1, 3]) (by kernel_rfl) (by simp) ?_
      refine AllReady.cons (o := ⟨some 24, _, _, _, _, _⟩) rfl (fun K hK => ?_) (AllReady.cons (o := ⟨some 26, _, _, _, _, _⟩) rfl (fun K hK => ?_) (AllReady.nil))
      · go_simp
        refine hK _ _ ?_
        clear hK K
        (try simp only [Act.put, List.setIfInBounds_toArray, List.set_cons_zero, List.set_cons_succ])
        refine wpAny_ready (rs := [3]) (by kernel_rfl) (by simp) ?_
        refine AllReady.cons (o := ⟨some 26, _, _, _, _, _⟩) rfl (fun K hK => ?_) (AllReady.nil)
        go_simp
        refine (refNumber_any n HN.out _).mono ?_
        rintro e w4 ⟨v4, rfl, ho4, hb4⟩
        obtain ⟨g4, cp4, rfl, -⟩ := row_addr ho4 (enc_pos _)
        have hc4 := row_text' ho4
        have HK4 := Lib.hid ho4
        have h74 := row_text' (row_kept HO7.out.drew hb4)
        have h84 := row_text' (row_kept HO8.out.drew hb4)
        have HB4 := Lib.hid hb4
        clear ho4 hb4
        refine hK _ _ ?_
        clear hK K
        (try simp only [Act.put, List.setIfInBounds_toArray, List.set_cons_zero, List.set_cons_succ])
        refine wpAny_ready (rs := [4]) (by kernel_rfl) (by simp) ?_
        refine AllReady.cons (o := ⟨some 27, _, _, _, _, _⟩) rfl (fun K hK => ?_) (AllReady.nil)
        go_simp
        refine hK _ _ ?_
        clear hK K
        (try simp only [Act.put, List.setIfInBounds_toArray, List.set_cons_zero, List.set_cons_succ])
        refine wpAny_take (i := 5) (oi := ⟨some 28, _, _, _, _, _⟩) (v := ?_) rfl (by kernel_rfl) (by kernel_rfl) (by kernel_rfl) (fun _ _ _ h => h) (Or.inl ⟨by rfl, ?_⟩) ?_
        rotate_left
        · intro W; go_simp; with_reducible rfl
        (try simp only [Act.put, List.setIfInBounds_toArray, List.set_cons_zero, List.set_cons_succ])
        refine wpAny_take (i := 6) (oi := ⟨some 29, _, _, _, _, _⟩) (v := ?_) rfl (by kernel_rfl) (by kernel_rfl) (by kernel_rfl) (fun _ _ _ h => h) (Or.inl ⟨by rfl, ?_⟩) ?_
        rotate_left
        · intro W; go_simp; with_reducible rfl
        (try simp only [Act.put, List.setIfInBounds_toArray, List.set_cons_zero, List.set_cons_succ])
        refine wpAny_take (i := 7) (oi := ⟨some 30, _, _, _, _, _⟩) (v := ?_) rfl (by kernel_rfl) (by kernel_rfl) (by kernel_rfl) (fun _ _ _ h => h) (Or.inl ⟨by rfl, ?_⟩) ?_
        rotate_left
        · intro W; go_simp; with_reducible rfl
        (try simp only [Act.put, List.setIfInBounds_toArray, List.set_cons_zero, List.set_cons_succ])
        refine wpAny_take (i := 9) (oi := ⟨some 32, _, _, _, _, _⟩) (v := ?_) rfl (by kernel_rfl) (by kernel_rfl) (by kernel_rfl) (fun _ _ _ h => h) (Or.inl ⟨by rfl, ?_⟩) ?_
        rotate_left
        · intro W; go_simp; with_reducible rfl
        (try simp only [Act.put, List.setIfInBounds_toArray, List.set_cons_zero, List.set_cons_succ])
        refine wpAny_ready (rs := [8, 10]) (by kernel_rfl) (by simp) ?_
        refine AllReady.cons (o := ⟨some 31, _, _, _, _, _⟩) rfl (fun K hK => ?_) (AllReady.cons (o := ⟨some 33, _, _, _, _, _⟩) rfl (fun K hK => ?_) (AllReady.nil))
        · go_simp
          refine hK _ _ ?_
          clear hK K
          (try simp only [Act.put, List.setIfInBounds_toArray, List.set_cons_zero, List.set_cons_succ])
          refine wpAny_ready (rs := [10]) (by kernel_rfl) (by simp) ?_
          refine AllReady.cons (o := ⟨some 33, _, _, _, _, _⟩) rfl (fun K hK => ?_) (AllReady.nil)
          go_simp
          refine (refSigned_any m HM0.out HM1.out _).mono ?_
          rintro e w5 ⟨v5, rfl, ho5, hb5⟩
          obtain ⟨g5, cp5, rfl, -⟩ := row_addr ho5 (enc_pos _)
          have hc5 := row_text' ho5
          have h85 := row_text' (row_kept (row_kept HO8.out.drew HB4.out) hb5)
          have HB5 := Lib.hid hb5
          clear ho5 hb5
          refine hK _ _ ?_
          clear hK K
          (try simp only [Act.put, List.setIfInBounds_toArray, List.set_cons_zero, List.set_cons_succ])
          refine wpAny_ready (rs := [11]) (by kernel_rfl) (by simp) ?_
          refine AllReady.cons (o := ⟨some 34, _, _, _, _, _⟩) rfl (fun K hK => ?_) (AllReady.nil)
          go_simp
          refine hK _ _ ?_
          clear hK K
          (try simp only [Act.put, List.setIfInBounds_toArray, List.set_cons_zero, List.set_cons_succ])
          refine wpAny_take (i := 12) (oi := ⟨some 35, _, _, _, _, _⟩) (v := ?_) rfl (by kernel_rfl) (by kernel_rfl) (by kernel_rfl) (fun _ _ _ h => h) (Or.inl ⟨by rfl, ?_⟩) ?_
          rotate_left
          · intro W; go_simp; with_reducible rfl
          (try simp only [Act.put, List.setIfInBounds_toArray, List.set_cons_zero, List.set_cons_succ])
          refine wpAny_take (i := 13) (oi := ⟨some 36, _, _, _, _, _⟩) (v := ?_) rfl (by kernel_rfl) (by kernel_rfl) (by kernel_rfl) (fun _ _ _ h => h) (Or.inl ⟨by rfl, ?_⟩) ?_
          rotate_left
          · intro W; go_simp; with_reducible rfl
          (try simp only [Act.put, List.setIfInBounds_toArray, List.set_cons_zero, List.set_cons_succ])
          refine wpAny_done (by kernel_rfl) ?_ _
          go_wp2_with fail
          go_meet
          exact ⟨rfl, two_below HB8.out HB8.out.size HB4.out HB5.out⟩
        · go_simp
          refine (refSigned_any m HM0.out HM1.out _).mono ?_
          rintro e w5 ⟨v5, rfl, ho5, hb5⟩
          obtain ⟨g5, cp5, rfl, -⟩ := row_addr ho5 (enc_pos _)
          have hc5 := row_text' ho5
          have h85 := row_text' (row_kept (row_kept HO8.out.drew HB4.out) hb5)
          have HB5 := Lib.hid hb5
          clear ho5 hb5
          refine hK _ _ ?_
          clear hK K
          (try simp only [Act.put, List.setIfInBounds_toArray, List.set_cons_zero, List.set_cons_succ])
          refine wpAny_ready (rs := [8, 11]) (by kernel_rfl) (by simp) ?_
          refine AllReady.cons (o := ⟨some 31, _, _, _, _, _⟩) rfl (fun K hK => ?_) (AllReady.cons (o := ⟨some 34, _, _, _, _, _⟩) rfl (fun K hK => ?_) (AllReady.nil))
          · go_simp
            refine hK _ _ ?_
            clear hK K
            (try simp only [Act.put, List.setIfInBounds_toArray, List.set_cons_zero, List.set_cons_succ])
            refine wpAny_ready (rs := [11]) (by kernel_rfl) (by simp) ?_
            refine AllReady.cons (o := ⟨some 34, _, _, _, _, _⟩) rfl (fun K hK => ?_) (AllReady.nil)
            go_simp
            refine hK _ _ ?_
            clear hK K
            (try simp only [Act.put, List.setIfInBounds_toArray, List.set_cons_zero, List.set_cons_succ])
            refine wpAny_take (i := 12) (oi := ⟨some 35, _, _, _, _, _⟩) (v := ?_) rfl (by kernel_rfl) (by kernel_rfl) (by kernel_rfl) (fun _ _ _ h => h) (Or.inl ⟨by rfl, ?_⟩) ?_
            rotate_left
            · intro W; go_simp; with_reducible rfl
            (try simp only [Act.put, List.setIfInBounds_toArray, List.set_cons_zero, List.set_cons_succ])
            refine wpAny_take (i := 13) (oi := ⟨some 36, _, _, _, _, _⟩) (v := ?_) rfl (by kernel_rfl) (by kernel_rfl) (by kernel_rfl) (fun _ _ _ h => h) (Or.inl ⟨by rfl, ?_⟩) ?_
            rotate_left
            · intro W; go_simp; with_reducible rfl
            (try simp only [Act.put, List.setIfInBounds_toArray, List.set_cons_zero, List.set_cons_succ])
            refine wpAny_done (by kernel_rfl) ?_ _
            go_wp2_with fail
            go_meet
            exact ⟨rfl, two_below HB8.out HB8.out.size HB4.out HB5.out⟩
          · go_simp
            refine hK _ _ ?_
            clear hK K
            (try simp only [Act.put, List.setIfInBounds_toArray, List.set_cons_zero, List.set_cons_succ])
            refine wpAny_ready (rs := [8]) (by kernel_rfl) (by simp) ?_
            refine AllReady.cons (o := ⟨some 31, _, _, _, _, _⟩) rfl (fun K hK => ?_) (AllReady.nil)
            go_simp
            refine hK _ _ ?_
            clear hK K
            (try simp only [Act.put, List.setIfInBounds_toArray, List.set_cons_zero, List.set_cons_succ])
            refine wpAny_take (i := 12) (oi := ⟨some 35, _, _, _, _, _⟩) (v := ?_) rfl (by kernel_rfl) (by kernel_rfl) (by kernel_rfl) (fun _ _ _ h => h) (Or.inl ⟨by rfl, ?_⟩) ?_
            rotate_left
            · intro W; go_simp; with_reducible rfl
            (try simp only [Act.put, List.setIfInBounds_toArray, List.set_cons_zero, List.set_cons_succ])
            refine wpAny_take (i := 13) (oi := ⟨some 36, _, _, _, _, _⟩) (v := ?_) rfl (by kernel_rfl) (by kernel_rfl) (by kernel_rfl) (fun _ _ _ h => h) (Or.inl ⟨by rfl, ?_⟩) ?_
            rotate_left
            · intro W; go_simp; with_reducible rfl
            (try simp only [Act.put, List.setIfInBounds_toArray, List.set_cons_zero, List.set_cons_succ])
            refine wpAny_done (by kernel_rfl) ?_ _
            go_wp2_with fail
            go_meet
            exact ⟨rfl, two_below HB8.out HB8.out.size HB4.out HB5.out⟩
      · go_simp
        refine (refNumber_any n HN.out _).mono ?_
        rintro e w4 ⟨v4, rfl, ho4, hb4⟩
        obtain ⟨g4, cp4, rfl, -⟩ := row_addr ho4 (enc_pos _)
        have hc4 := row_text' ho4
        have HK4 := Lib.hid ho4
        have h74 := row_text' (row_kept HO7.out.drew hb4)
        have h84 := row_text' (row_kept HO8.out.drew hb4)
        have HB4 := Lib.hid hb4
        clear ho4 hb4
        refine hK _ _ ?_
        clear hK K
        (try simp only [Act.put, List.setIfInBounds_toArray, List.set_cons_zero, List.set_cons_succ])
        refine wpAny_ready (rs := [1, 4]) (by kernel_rfl) (by simp) ?_
        refine AllReady.cons (o := ⟨some 24, _, _, _, _, _⟩) rfl (fun K hK => ?_) (AllReady.cons (o := ⟨some 27, _, _, _, _, _⟩) rfl (fun K hK => ?_) (AllReady.nil))
        · go_simp
          refine hK _ _ ?_
          clear hK K
          (try simp only [Act.put, List.setIfInBounds_toArray, List.set_cons_zero, List.set_cons_succ])
          refine wpAny_ready (rs := [4]) (by kernel_rfl) (by simp) ?_
          refine AllReady.cons (o := ⟨some 27, _, _, _, _, _⟩) rfl (fun K hK => ?_) (AllReady.nil)
          go_simp
          refine hK _ _ ?_
          clear hK K
          (try simp only [Act.put, List.setIfInBounds_toArray, List.set_cons_zero, List.set_cons_succ])
          refine wpAny_take (i := 5) (oi := ⟨some 28, _, _, _, _, _⟩) (v := ?_) rfl (by kernel_rfl) (by kernel_rfl) (by kernel_rfl) (fun _ _ _ h => h) (Or.inl ⟨by rfl, ?_⟩) ?_
          rotate_left
          · intro W; go_simp; with_reducible rfl
          (try simp only [Act.put, List.setIfInBounds_toArray, List.set_cons_zero, List.set_cons_succ])
          refine wpAny_take (i := 6) (oi := ⟨some 29, _, _, _, _, _⟩) (v := ?_) rfl (by kernel_rfl) (by kernel_rfl) (by kernel_rfl) (fun _ _ _ h => h) (Or.inl ⟨by rfl, ?_⟩) ?_
          rotate_left
          · intro W; go_simp; with_reducible rfl
          (try simp only [Act.put, List.setIfInBounds_toArray, List.set_cons_zero, List.set_cons_succ])
          refine wpAny_take (i := 7) (oi := ⟨some 30, _, _, _, _, _⟩) (v := ?_) rfl (by kernel_rfl) (by kernel_rfl) (by kernel_rfl) (fun _ _ _ h => h) (Or.inl ⟨by rfl, ?_⟩) ?_
          rotate_left
          · intro W; go_simp; with_reducible rfl
          (try simp only [Act.put, List.setIfInBounds_toArray, List.set_cons_zero, List.set_cons_succ])
          refine wpAny_take (i := 9) (oi := ⟨some 32, _, _, _, _, _⟩) (v := ?_) rfl (by kernel_rfl) (by kernel_rfl) (by kernel_rfl) (fun _ _ _ h => h) (Or.inl ⟨by rfl, ?_⟩) ?_
          rotate_left
          · intro W; go_simp; with_reducible rfl
          (try simp only [Act.put, List.setIfInBounds_toArray, List.set_cons_zero, List.set_cons_succ])
          refine wpAny_ready (rs := [8, 10]) (by kernel_rfl) (by simp) ?_
          refine AllReady.cons (o := ⟨some 31, _, _, _, _, _⟩) rfl (fun K hK => ?_) (AllReady.cons (o := ⟨some 33, _, _, _, _, _⟩) rfl (fun K hK => ?_) (AllReady.nil))
          · go_simp
            refine hK _ _ ?_
            clear hK K
            (try simp only [Act.put, List.setIfInBounds_toArray, List.set_cons_zero, List.set_cons_succ])
            refine wpAny_ready (rs := [10]) (by kernel_rfl) (by simp) ?_
            refine AllReady.cons (o := ⟨some 33, _, _, _, _, _⟩) rfl (fun K hK => ?_) (AllReady.nil)
            go_simp
            refine (refSigned_any m HM0.out HM1.out _).mono ?_
            rintro e w5 ⟨v5, rfl, ho5, hb5⟩
            obtain ⟨g5, cp5, rfl, -⟩ := row_addr ho5 (enc_pos _)
            have hc5 := row_text' ho5
            have h85 := row_text' (row_kept (row_kept HO8.out.drew HB4.out) hb5)
            have HB5 := Lib.hid hb5
            clear ho5 hb5
            refine hK _ _ ?_
            clear hK K
            (try simp only [Act.put, List.setIfInBounds_toArray, List.set_cons_zero, List.set_cons_succ])
            refine wpAny_ready (rs := [11]) (by kernel_rfl) (by simp) ?_
            refine AllReady.cons (o := ⟨some 34, _, _, _, _, _⟩) rfl (fun K hK => ?_) (AllReady.nil)
            go_simp
            refine hK _ _ ?_
            clear hK K
            (try simp only [Act.put, List.setIfInBounds_toArray, List.set_cons_zero, List.set_cons_succ])
            refine wpAny_take (i := 12) (oi := ⟨some 35, _, _, _, _, _⟩) (v := ?_) rfl (by kernel_rfl) (by kernel_rfl) (by kernel_rfl) (fun _ _ _ h => h) (Or.inl ⟨by rfl, ?_⟩) ?_
            rotate_left
            · intro W; go_simp; with_reducible rfl
            (try simp only [Act.put, List.setIfInBounds_toArray, List.set_cons_zero, List.set_cons_succ])
            refine wpAny_take (i := 13) (oi := ⟨some 36, _, _, _, _, _⟩) (v := ?_) rfl (by kernel_rfl) (by kernel_rfl) (by kernel_rfl) (fun _ _ _ h => h) (Or.inl ⟨by rfl, ?_⟩) ?_
            rotate_left
            · intro W; go_simp; with_reducible rfl
            (try simp only [Act.put, List.setIfInBounds_toArray, List.set_cons_zero, List.set_cons_succ])
            refine wpAny_done (by kernel_rfl) ?_ _
            go_wp2_with fail
            go_meet
            exact ⟨rfl, two_below HB8.out HB8.out.size HB4.out HB5.out⟩
          · go_simp
            refine (refSigned_any m HM0.out HM1.out _).mono ?_
            rintro e w5 ⟨v5, rfl, ho5, hb5⟩
            obtain ⟨g5, cp5, rfl, -⟩ := row_addr ho5 (enc_pos _)
            have hc5 := row_text' ho5
            have h85 := row_text' (row_kept (row_kept HO8.out.drew HB4.out) hb5)
            have HB5 := Lib.hid hb5
            clear ho5 hb5
            refine hK _ _ ?_
            clear hK K
            (try simp only [Act.put, List.setIfInBounds_toArray, List.set_cons_zero, List.set_cons_succ])
            refine wpAny_ready (rs := [8, 11]) (by kernel_rfl) (by simp) ?_
            refine AllReady.cons (o := ⟨some 31, _, _, _, _, _⟩) rfl (fun K hK => ?_) (AllReady.cons (o := ⟨some 34, _, _, _, _, _⟩) rfl (fun K hK => ?_) (AllReady.nil))
            · go_simp
              refine hK _ _ ?_
              clear hK K
              (try simp only [Act.put, List.setIfInBounds_toArray, List.set_cons_zero, List.set_cons_succ])
              refine wpAny_ready (rs := [11]) (by kernel_rfl) (by simp) ?_
              refine AllReady.cons (o := ⟨some 34, _, _, _, _, _⟩) rfl (fun K hK => ?_) (AllReady.nil)
              go_simp
              refine hK _ _ ?_
              clear hK K
              (try simp only [Act.put, List.setIfInBounds_toArray, List.set_cons_zero, List.set_cons_succ])
              refine wpAny_take (i := 12) (oi := ⟨some 35, _, _, _, _, _⟩) (v := ?_) rfl (by kernel_rfl) (by kernel_rfl) (by kernel_rfl) (fun _ _ _ h => h) (Or.inl ⟨by rfl, ?_⟩) ?_
              rotate_left
              · intro W; go_simp; with_reducible rfl
              (try simp only [Act.put, List.setIfInBounds_toArray, List.set_cons_zero, List.set_cons_succ])
              refine wpAny_take (i := 13) (oi := ⟨some 36, _, _, _, _, _⟩) (v := ?_) rfl (by kernel_rfl) (by kernel_rfl) (by kernel_rfl) (fun _ _ _ h => h) (Or.inl ⟨by rfl, ?_⟩) ?_
              rotate_left
              · intro W; go_simp; with_reducible rfl
              (try simp only [Act.put, List.setIfInBounds_toArray, List.set_cons_zero, List.set_cons_succ])
              refine wpAny_done (by kernel_rfl) ?_ _
              go_wp2_with fail
              go_meet
              exact ⟨rfl, two_below HB8.out HB8.out.size HB4.out HB5.out⟩
            · go_simp
              refine hK _ _ ?_
              clear hK K
              (try simp only [Act.put, List.setIfInBounds_toArray, List.set_cons_zero, List.set_cons_succ])
              refine wpAny_ready (rs := [8]) (by kernel_rfl) (by simp) ?_
              refine AllReady.cons (o := ⟨some 31, _, _, _, _, _⟩) rfl (fun K hK => ?_) (AllReady.nil)
              go_simp
              refine hK _ _ ?_
              clear hK K
              (try simp only [Act.put, List.setIfInBounds_toArray, List.set_cons_zero, List.set_cons_succ])
              refine wpAny_take (i := 12) (oi := ⟨some 35, _, _, _, _, _⟩) (v := ?_) rfl (by kernel_rfl) (by kernel_rfl) (by kernel_rfl) (fun _ _ _ h => h) (Or.inl ⟨by rfl, ?_⟩) ?_
              rotate_left
              · intro W; go_simp; with_reducible rfl
              (try simp only [Act.put, List.setIfInBounds_toArray, List.set_cons_zero, List.set_cons_succ])
              refine wpAny_take (i := 13) (oi := ⟨some 36, _, _, _, _, _⟩) (v := ?_) rfl (by kernel_rfl) (by kernel_rfl) (by kernel_rfl) (fun _ _ _ h => h) (Or.inl ⟨by rfl, ?_⟩) ?_
              rotate_left
              · intro W; go_simp; with_reducible rfl
              (try simp only [Act.put, List.setIfInBounds_toArray, List.set_cons_zero, List.set_cons_succ])
              refine wpAny_done (by kernel_rfl) ?_ _
              go_wp2_with fail
              go_meet
              exact ⟨rfl, two_below HB8.out HB8.out.size HB4.out HB5.out⟩
        · go_simp
          refine hK _ _ ?_
          clear hK K
          (try simp only [Act.put, List.setIfInBounds_toArray, List.set_cons_zero, List.set_cons_succ])
          refine wpAny_ready (rs := [1]) (by kernel_rfl) (by simp) ?_
          refine AllReady.cons (o := ⟨some 24, _, _, _, _, _⟩) rfl (fun K hK => ?_) (AllReady.nil)
          go_simp
          refine hK _ _ ?_
          clear hK K
          (try simp only [Act.put, List.setIfInBounds_toArray, List.set_cons_zero, List.set_cons_succ])
          refine wpAny_take (i := 5) (oi := ⟨some 28, _, _, _, _, _⟩) (v := ?_) rfl (by kernel_rfl) (by kernel_rfl) (by kernel_rfl) (fun _ _ _ h => h) (Or.inl ⟨by rfl, ?_⟩) ?_
          rotate_left
          · intro W; go_simp; with_reducible rfl
          (try simp only [Act.put, List.setIfInBounds_toArray, List.set_cons_zero, List.set_cons_succ])
          refine wpAny_take (i := 6) (oi := ⟨some 29, _, _, _, _, _⟩) (v := ?_) rfl (by kernel_rfl) (by kernel_rfl) (by kernel_rfl) (fun _ _ _ h => h) (Or.inl ⟨by rfl, ?_⟩) ?_
          rotate_left
          · intro W; go_simp; with_reducible rfl
          (try simp only [Act.put, List.setIfInBounds_toArray, List.set_cons_zero, List.set_cons_succ])
          refine wpAny_take (i := 7) (oi := ⟨some 30, _, _, _, _, _⟩) (v := ?_) rfl (by kernel_rfl) (by kernel_rfl) (by kernel_rfl) (fun _ _ _ h => h) (Or.inl ⟨by rfl, ?_⟩) ?_
          rotate_left
          · intro W; go_simp; with_reducible rfl
          (try simp only [Act.put, List.setIfInBounds_toArray, List.set_cons_zero, List.set_cons_succ])
          refine wpAny_take (i := 9) (oi := ⟨some 32, _, _, _, _, _⟩) (v := ?_) rfl (by kernel_rfl) (by kernel_rfl) (by kernel_rfl) (fun _ _ _ h => h) (Or.inl ⟨by rfl, ?_⟩) ?_
          rotate_left
          · intro W; go_simp; with_reducible rfl
          (try simp only [Act.put, List.setIfInBounds_toArray, List.set_cons_zero, List.set_cons_succ])
          refine wpAny_ready (rs := [8, 10]) (by kernel_rfl) (by simp) ?_
          refine AllReady.cons (o := ⟨some 31, _, _, _, _, _⟩) rfl (fun K hK => ?_) (AllReady.cons (o := ⟨some 33, _, _, _, _, _⟩) rfl (fun K hK => ?_) (AllReady.nil))
          · go_simp
            refine hK _ _ ?_
            clear hK K
            (try simp only [Act.put, List.setIfInBounds_toArray, List.set_cons_zero, List.set_cons_succ])
            refine wpAny_ready (rs := [10]) (by kernel_rfl) (by simp) ?_
            refine AllReady.cons (o := ⟨some 33, _, _, _, _, _⟩) rfl (fun K hK => ?_) (AllReady.nil)
            go_simp
            refine (refSigned_any m HM0.out HM1.out _).mono ?_
            rintro e w5 ⟨v5, rfl, ho5, hb5⟩
            obtain ⟨g5, cp5, rfl, -⟩ := row_addr ho5 (enc_pos _)
            have hc5 := row_text' ho5
            have h85 := row_text' (row_kept (row_kept HO8.out.drew HB4.out) hb5)
            have HB5 := Lib.hid hb5
            clear ho5 hb5
            refine hK _ _ ?_
            clear hK K
            (try simp only [Act.put, List.setIfInBounds_toArray, List.set_cons_zero, List.set_cons_succ])
            refine wpAny_ready (rs := [11]) (by kernel_rfl) (by simp) ?_
            refine AllReady.cons (o := ⟨some 34, _, _, _, _, _⟩) rfl (fun K hK => ?_) (AllReady.nil)
            go_simp
            refine hK _ _ ?_
            clear hK K
            (try simp only [Act.put, List.setIfInBounds_toArray, List.set_cons_zero, List.set_cons_succ])
            refine wpAny_take (i := 12) (oi := ⟨some 35, _, _, _, _, _⟩) (v := ?_) rfl (by kernel_rfl) (by kernel_rfl) (by kernel_rfl) (fun _ _ _ h => h) (Or.inl ⟨by rfl, ?_⟩) ?_
            rotate_left
            · intro W; go_simp; with_reducible rfl
            (try simp only [Act.put, List.setIfInBounds_toArray, List.set_cons_zero, List.set_cons_succ])
            refine wpAny_take (i := 13) (oi := ⟨some 36, _, _, _, _, _⟩) (v := ?_) rfl (by kernel_rfl) (by kernel_rfl) (by kernel_rfl) (fun _ _ _ h => h) (Or.inl ⟨by rfl, ?_⟩) ?_
            rotate_left
            · intro W; go_simp; with_reducible rfl
            (try simp only [Act.put, List.setIfInBounds_toArray, List.set_cons_zero, List.set_cons_succ])
            refine wpAny_done (by kernel_rfl) ?_ _
            go_wp2_with fail
            go_meet
            exact ⟨rfl, two_below HB8.out HB8.out.size HB4.out HB5.out⟩
          · go_simp
            refine (refSigned_any m HM0.out HM1.out _).mono ?_
            rintro e w5 ⟨v5, rfl, ho5, hb5⟩
            obtain ⟨g5, cp5, rfl, -⟩ := row_addr ho5 (enc_pos _)
            have hc5 := row_text' ho5
            have h85 := row_text' (row_kept (row_kept HO8.out.drew HB4.out) hb5)
            have HB5 := Lib.hid hb5
            clear ho5 hb5
            refine hK _ _ ?_
            clear hK K
            (try simp only [Act.put, List.setIfInBounds_toArray, List.set_cons_zero, List.set_cons_succ])
            refine wpAny_ready (rs := [8, 11]) (by kernel_rfl) (by simp) ?_
            refine AllReady.cons (o := ⟨some 31, _, _, _, _, _⟩) rfl (fun K hK => ?_) (AllReady.cons (o := ⟨some 34, _, _, _, _, _⟩) rfl (fun K hK => ?_) (AllReady.nil))
            · go_simp
              refine hK _ _ ?_
              clear hK K
              (try simp only [Act.put, List.setIfInBounds_toArray, List.set_cons_zero, List.set_cons_succ])
              refine wpAny_ready (rs := [11]) (by kernel_rfl) (by simp) ?_
              refine AllReady.cons (o := ⟨some 34, _, _, _, _, _⟩) rfl (fun K hK => ?_) (AllReady.nil)
              go_simp
              refine hK _ _ ?_
              clear hK K
              (try simp only [Act.put, List.setIfInBounds_toArray, List.set_cons_zero, List.set_cons_succ])
              refine wpAny_take (i := 12) (oi := ⟨some 35, _, _, _, _, _⟩) (v := ?_) rfl (by kernel_rfl) (by kernel_rfl) (by kernel_rfl) (fun _ _ _ h => h) (Or.inl ⟨by rfl, ?_⟩) ?_
              rotate_left
              · intro W; go_simp; with_reducible rfl
              (try simp only [Act.put, List.setIfInBounds_toArray, List.set_cons_zero, List.set_cons_succ])
              refine wpAny_take (i := 13) (oi := ⟨some 36, _, _, _, _, _⟩) (v := ?_) rfl (by kernel_rfl) (by kernel_rfl) (by kernel_rfl) (fun _ _ _ h => h) (Or.inl ⟨by rfl, ?_⟩) ?_
              rotate_left
              · intro W; go_simp; with_reducible rfl
              (try simp only [Act.put, List.setIfInBounds_toArray, List.set_cons_zero, List.set_cons_succ])
              refine wpAny_done (by kernel_rfl) ?_ _
              go_wp2_with fail
              go_meet
              exact ⟨rfl, two_below HB8.out HB8.out.size HB4.out HB5.out⟩
            · go_simp
              refine hK _ _ ?_
              clear hK K
              (try simp only [Act.put, List.setIfInBounds_toArray, List.set_cons_zero, List.set_cons_succ])
              refine wpAny_ready (rs := [8]) (by kernel_rfl) (by simp) ?_
              refine AllReady.cons (o := ⟨some 31, _, _, _, _, _⟩) rfl (fun K hK => ?_) (AllReady.nil)
              go_simp
              refine hK _ _ ?_
              clear hK K
              (try simp only [Act.put, List.setIfInBounds_toArray, List.set_cons_zero, List.set_cons_succ])
              refine wpAny_take (i := 12) (oi := ⟨some 35, _, _, _, _, _⟩) (v := ?_) rfl (by kernel_rfl) (by kernel_rfl) (by kernel_rfl) (fun _ _ _ h => h) (Or.inl ⟨by rfl, ?_⟩) ?_
              rotate_left
              · intro W; go_simp; with_reducible rfl
              (try simp only [Act.put, List.setIfInBounds_toArray, List.set_cons_zero, List.set_cons_succ])
              refine wpAny_take (i := 13) (oi := ⟨some 36, _, _, _, _, _⟩) (v := ?_) rfl (by kernel_rfl) (by kernel_rfl) (by kernel_rfl) (fun _ _ _ h => h) (Or.inl ⟨by rfl, ?_⟩) ?_
              rotate_left
              · intro W; go_simp; with_reducible rfl
              (try simp only [Act.put, List.setIfInBounds_toArray, List.set_cons_zero, List.set_cons_succ])
              refine wpAny_done (by kernel_rfl) ?_ _
              go_wp2_with fail
              go_meet
              exact ⟨rfl, two_below HB8.out HB8.out.size HB4.out HB5.out⟩
    case rest =>
      obtain ⟨rfl, hbc⟩ := hcut
      have HBC := Lib.hid (HB8.out.trans (hbc.mono HB8.out.size))
      have HO7c := Lib.hid (row_kept HO7.out hbc)
      have HO8c := Lib.hid (row_kept HO8.out hbc)
      clear hbc
      have HZc : Hid (Bytes wc a len zs) := Lib.hid (HZ.out.below HBC.out (Nat.le_refl _))
      have HO0 : Hid ((wc.alloc (.cells #[] 5)).ownsRow wc.heap.size 5 1 (.slice (some ⟨wc.heap.size, 0, none⟩) 0 0) 0 []) := World.ownsRow_lit wc #[] 0 (Nat.le_refl _) (Nat.zero_le _) rfl
      have HQ7 : Hid (Bytes (wc.alloc (.cells #[] 5)) (some ⟨g7, 0, none⟩) (enc n).length (enc n)) := Lib.hid (row_bytes (HO7c.out.alloc _) (enc_fits n))
      go_wp2_with (at_builtin; refine wpList_append_bytes rfl (.tmp 38) (.tmp 39) rfl wc.heap.size _ _ _ rfl HO0.out _ _ _ _ rfl HQ7.out (by simp) hc7 (by have := HE1.out; omega) (by simp) ?_)
      intro va wa howna hgrowa
      have HBa := Lib.hid (((Below.refl _ wc).alloc (Nat.le_refl _) _).grown hgrowa (by simp) (fun k hk => (HO0.out.lt k hk).1))
      have HOa := Lib.hid howna
      have hsa := HBa.out.size
      clear hgrowa howna
      go_wp2_with (at_builtin; refine wpList_append_bytes rfl (.tmp 40) (.tmp 41) rfl wc.heap.size _ _ _ rfl HOa.out a len cap zs rfl (HZc.out.below HBa.out (Nat.le_refl _)) HNN.out hlc (by have := HE1.out; omega) hsa ?_)
      intro vb wb hownb hgrowb
      have HBb := Lib.hid (HBa.out.grown hgrowb hsa (fun k hk => (HOa.out.lt k hk).1))
      obtain ⟨gb, cpb, rfl, -, hcb, hmb⟩ := row_addr hownb (by have := enc_pos n; omega)
      unfold maxLen at hmb
      have HQb : Hid (Bytes wb (some ⟨gb, 0, none⟩) ((enc n).length + len) (enc n ++ zs)) := Lib.hid (row_bytes_eq hownb (by rw [List.length_append, HL.out]) (by simp) (bytes_two (enc_fits n) HZ.out.2.1))
      clear hgrowb hownb
      go_wp2_with fail
      refine (readNumber_any _ _ cpb _ _ HQb.out hcb hmb).mono ?_
      rintro e w9 ⟨rfl, hb9⟩
      rw [rd_enc0 HN.out]
      have HB9 := Lib.hid (HBb.out.trans (hb9.mono HBb.out.size))
      clear hb9
      have HBC9 : Hid (Below wc.heap.size wc w9) := HB9
      have HZ9 : Hid (Bytes w9 a len zs) := Lib.hid (HZc.out.below HB9.out (Nat.le_refl _))
      have HO89 := Lib.hid (row_kept HO8c.out HB9.out)
      have HO0' : Hid ((w9.alloc (.cells #[] 5)).ownsRow w9.heap.size 5 1 (.slice (some ⟨w9.heap.size, 0, none⟩) 0 0) 0 []) := World.ownsRow_lit w9 #[] 0 (Nat.le_refl _) (Nat.zero_le _) rfl
      have HQ8 : Hid (Bytes (w9.alloc (.cells #[] 5)) (some ⟨g8, 0, none⟩) (enc (Lib.zigzag m)).length (enc (Lib.zigzag m))) := Lib.hid (row_bytes (HO89.out.alloc _) (enc_fits _))
      go_wp2_with (at_builtin; refine wpList_append_bytes rfl (.tmp 48) (.tmp 49) rfl w9.heap.size _ _ _ rfl HO0'.out _ _ _ _ rfl HQ8.out (by simp) hc8 (by have := HE2.out; omega) (by simp) ?_)
      intro vd wd hownd hgrowd
      have HBd := Lib.hid (((Below.refl _ w9).alloc (Nat.le_refl _) _).grown hgrowd (by simp) (fun k hk => (HO0'.out.lt k hk).1))
      have HOd := Lib.hid hownd
      have hsd := HBd.out.size
      clear hgrowd hownd
      go_wp2_with (at_builtin; refine wpList_append_bytes rfl (.tmp 50) (.tmp 51) rfl w9.heap.size _ _ _ rfl HOd.out a len cap zs rfl (HZ9.out.below HBd.out (Nat.le_refl _)) HNN.out hlc (by have := HE2.out; omega) hsd ?_)
      intro vf wf hownf hgrowf
      have HBf := Lib.hid (HBd.out.grown hgrowf hsd (fun k hk => (HOd.out.lt k hk).1))
      obtain ⟨gf, cpf, rfl, -, hcf, hmf⟩ := row_addr hownf (by have := enc_pos (Lib.zigzag m); omega)
      unfold maxLen at hmf
      have HQf : Hid (Bytes wf (some ⟨gf, 0, none⟩) ((enc (Lib.zigzag m)).length + len) (enc (Lib.zigzag m) ++ zs)) := Lib.hid (row_bytes_eq hownf (by rw [List.length_append, HL.out]) (by simp) (bytes_two (enc_fits _) HZ.out.2.1))
      clear hgrowf hownf
      go_wp2_with fail
      refine (readSigned_any _ _ cpf _ _ HQf.out hcf hmf).mono ?_
      rintro e wg ⟨rfl, hbg⟩
      rw [rd_enc0 HZZ.out]
      have HBg := Lib.hid (HBf.out.trans (hbg.mono HBf.out.size))
      clear hbg
      have HX : Hid (unzig (Lib.zigzag m) = m) := Lib.hid unzig_zig
      rw [HX.out]
      go_wp2_with fail
      refine (num_any _ _).mono ?_
      rintro e w' ⟨rfl, rfl⟩
      go_wp2_with fail
      refine (num_any _ _).mono ?_
      rintro e w' ⟨rfl, rfl⟩
      go_wp2_with fail
      refine (works_any _).mono ?_
      rintro e wk ⟨rfl, hbk⟩
      have HBk := Lib.hid (HBC.out.trans (((HB9.out).trans (HBg.out.mono HB9.out.size)).mono HBC.out.size))
      have HBz := Lib.hid (HBk.out.trans (hbk.mono HBk.out.size))
      clear hbk
      go_wp2
      go_ret
      exact ⟨rfl, HBz.out⟩
end Go.Proofs.Ytcdgecdcfpedfaa
