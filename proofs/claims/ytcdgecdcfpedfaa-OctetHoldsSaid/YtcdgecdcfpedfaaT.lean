/-
  PROVED: The contract of the law's few; what ReadList reads of a list's bytes is the list (plain). CONDITIONS: the texts lie in the world.
-/
import Derived.Test.YtcdgecdcfpedfaaS
namespace Go.Proofs.Ytcdgecdcfpedfaa
open Go.RowKit Oc
/-- How many bytes the first texts have. -/
def tot (l : List ByteArray) (j : Nat) : Nat := ((l.take j).map ByteArray.size).sum
theorem tot_succ (l : List ByteArray) (j : Nat) (h : j < l.length) : tot l (j + 1) = tot l j + (l.getD j ByteArray.empty).size := by
  unfold tot
  rw [List.take_add_one, List.getElem?_eq_getElem h, List.map_append, List.sum_append]
  simp only [Option.toList_some, List.map_cons, List.map_nil, List.sum_cons, List.sum_nil, Nat.add_zero, List.getD, List.getElem?_eq_getElem h, Option.getD_some]
def FewPost (l : List ByteArray) (w : World) (e : Ending) (w' : World) : Prop :=
  ∃ b, e = .returned (.bool b) ∧ (b = true → l.length ≤ 200 ∧ tot l l.length ≤ 3000) ∧ Below w.heap.size w w'

set_option maxRecDepth 100000 in
set_option maxHeartbeats 400000 in
theorem few_any (v : Value) (l : List ByteArray) (w : World) (h : Texts w v l) (hsz : ∀ s ∈ l, s.size ≤ 9223372036854775807) :
    Calls Try.prog 25 #[v] w (FewPost l w) := by
  obtain ⟨ao, cp, rfl, hl, hc⟩ := h
  have HC := Lib.hid hc
  have HS := Lib.hid hsz
  clear hc hsz
  go_enter Try.func25, Try.ntmps25
  go_wp2
  go_loopw [3, 4] (fun n i wr => ∃ j N nz : Nat, i = .int .i64 j ∧ n = .int .i64 N ∧ j ≤ l.length ∧ j ≤ 201 ∧ N ≤ 6001 ∧ (N ≤ 3000 → N = tot l j) ∧ Hid (wr = w.drewN nz)) (fun n i _ => l.length - (intOf i).toNat)
  case atStart => exact ⟨0, 0, 0, rfl, rfl, by omega, by omega, by omega, fun _ => rfl, rfl⟩
  case round =>
    obtain ⟨j, N, nz, rfl, rfl, hj, hj2, hN, hNt, hw⟩ := hrel
    by_cases hlt : j < l.length
    · by_cases h2 : j ≤ 200
      · by_cases h3 : N ≤ 3000
        · obtain ⟨b, off, rfl, hcell⟩ := HC.out (by omega)
          have h1 := cell_drawn hw.out (hcell j hlt)
          have ht := tot_succ l j hlt
          have hss := HS.out (l.getD j ByteArray.empty) (by rw [List.getD_eq_getElem?_getD, List.getElem?_eq_getElem hlt]; exact List.getElem_mem hlt)
          generalize hs : l.getD j ByteArray.empty = s at h1 ht hss
          have HT : Hid (N + s.size = tot l (j + 1)) := Lib.hid (by rw [ht, hNt h3])
          clear hcell hs ht hNt
          by_cases h4 : s.size ≤ 3000
          · go_wp2_with fail
            go_roundw
            case rel => go_light; exact ⟨j + 1, N + s.size, nz, by go_num, by go_num, by omega, by omega, by omega, fun _ => HT.out, hw⟩
            case measure => go_light; simp [intOf]; omega
          · go_wp2_with fail
            go_roundw
            case rel => go_light; exact ⟨j + 1, N + 3001, nz, by go_num, by go_num, by omega, by omega, by omega, by omega, hw⟩
            case measure => go_light; simp [intOf]; omega
        · clear hNt
          by_cases hL : l.length ≤ 200
          all_goals
            go_wp2
            go_ret
            refine ⟨_, rfl, fun hb => ?_, by rw [hw.out]; exact below_drawn _ _⟩
            simp at hb <;> omega
      · have HT := Lib.hid hNt
        clear hNt
        have hL : ¬ l.length ≤ 200 := by omega
        go_wp2
        go_ret
        refine ⟨_, rfl, fun hb => ?_, by rw [hw.out]; exact below_drawn _ _⟩
        simp at hb
    · obtain rfl : j = l.length := by omega
      have HT := Lib.hid hNt
      clear hNt
      by_cases hL : l.length ≤ 200
      · by_cases h3 : N ≤ 3000
        all_goals
          go_wp2
          go_ret
          refine ⟨_, rfl, fun hb => ?_, by rw [hw.out]; exact below_drawn _ _⟩
          simp at hb
          exact ⟨hL, by rw [← HT.out (by omega)]; omega⟩
      · go_wp2
        go_ret
        refine ⟨_, rfl, fun hb => ?_, by rw [hw.out]; exact below_drawn _ _⟩
        simp at hb

/-- A text of a text's numbers is the text. -/
theorem nums_text (s : ByteArray) : strOfNums (nums s) = s := by
  unfold nums strOfNums
  rw [List.map_map]
  have : (fun n : Int => UInt8.ofNat n.toNat) ∘ (fun b : UInt8 => (b.toNat : Int)) = id := by
    funext b; simp
  rw [this]; cases s; simp
theorem rdText_enc (s : ByteArray) (hs : s.size < 18446744073709551616) (t : List Int) : rdText (encText s ++ t) = (s, (encText s).length, 0) := by
  unfold rdText encText
  rw [List.append_assoc, rd_enc0 hs]
  simp only [ne_eq, not_true_eq_false, if_false, List.length_append, nums_length]
  rw [if_pos (by omega), List.drop_left, List.take_left' (nums_length s), nums_text]
theorem rdAcc_enc : ∀ (l pre : List ByteArray) (p : Nat) (zs t : List Int), (∀ s ∈ l, s.size < 18446744073709551616) → zs.drop p = (l.map encText).flatten ++ t →
    rdAcc l.length pre p zs = (pre ++ l, p + ((l.map encText).flatten).length, 0)
  | [], pre, p, zs, t, _, _ => by simp [rdAcc]
  | s :: l, pre, p, zs, t, hs, h => by
    have h1 : zs.drop p = encText s ++ ((l.map encText).flatten ++ t) := by rw [h]; simp
    have h2 := rdText_enc s (hs s (by simp)) ((l.map encText).flatten ++ t)
    rw [← h1] at h2
    rw [List.length_cons, rdAcc_more (by rw [h2]), h2]
    have h3 : zs.drop (p + (encText s).length) = (l.map encText).flatten ++ t := by rw [← List.drop_drop, h1, List.drop_left]
    rw [rdAcc_enc l _ _ zs t (fun x hx => hs x (by simp [hx])) h3]
    simp [Nat.add_assoc]
theorem rdList_enc (l : List ByteArray) (t : List Int) (most : Int) (hl : l.length < 18446744073709551616) (hs : ∀ s ∈ l, s.size < 18446744073709551616) :
    rdList (encList l ++ t) most = if max 0 most < (l.length : Int) then ([], 0, 3) else (l, (encList l).length, 0) := by
  have e : encList l ++ t = enc l.length ++ ((l.map encText).flatten ++ t) := by simp [encList]
  unfold rdList
  rw [e, rd_enc0 hl]
  simp only [ne_eq, not_true_eq_false, if_false]
  split
  · rfl
  · rw [rdAcc_enc l [] _ _ t hs List.drop_left]
    simp [encList]
end Go.Proofs.Ytcdgecdcfpedfaa
