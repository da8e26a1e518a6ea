/-
  PROVED: The contract of the reference's List. CONDITIONS: at most 100000 texts whose bytes are at most 100000 in all.
-/
import Derived.Test.YtcdgecdcfpedfaaK
namespace Go.Proofs.Ytcdgecdcfpedfaa
open Go.RowKit Oc
/-- The bytes of so many of a list's texts, behind their number. -/
def encList (l : List ByteArray) : List Int := enc l.length ++ (l.map encText).flatten
def encTo (l : List ByteArray) (j : Nat) : List Int := enc l.length ++ ((l.take j).map encText).flatten
theorem encTo_zero (l : List ByteArray) : encTo l 0 = enc l.length := by simp [encTo]
theorem encTo_all (l : List ByteArray) : encTo l l.length = encList l := by simp [encTo, encList]
theorem encTo_succ (l : List ByteArray) (j : Nat) (h : j < l.length) : encTo l (j + 1) = encTo l j ++ encText (l.getD j ByteArray.empty) := by
  have e : l.take (j + 1) = l.take j ++ [l.getD j ByteArray.empty] := by
    rw [List.take_add_one, List.getElem?_eq_getElem h]
    simp only [Option.toList_some, List.getD, List.getElem?_eq_getElem h, Option.getD_some]
  unfold encTo
  rw [e, List.map_append, List.flatten_append, List.append_assoc]
  simp only [List.map_cons, List.map_nil, List.flatten_cons, List.flatten_nil, List.append_nil]
theorem encTo_le (l : List ByteArray) (j : Nat) : (encTo l j).length ≤ (encList l).length := by
  unfold encTo encList
  have : ((l.map encText).flatten).length = (((l.take j).map encText).flatten).length + (((l.drop j).map encText).flatten).length := by
    rw [← List.length_append, ← List.flatten_append, ← List.map_append, List.take_append_drop]
  simp only [List.length_append]; omega
theorem row_kept {w w' : World} {B : Nat} {e : TypeId} {size : Nat} {v : Value} {n : Nat} {xs : List Value} (h : w.ownsRow B e size v n xs) (hb : Below w.heap.size w w') : w'.ownsRow B e size v n xs :=
  h.kept (row := none) ⟨hb.os, hb.tape, hb.output, hb.size, fun i hi _ => hb.block i hi⟩ (by by_cases h : v.ownBlock = none; exact .inl h; exact .inr h)
theorem encText_pos (s : ByteArray) : 0 < (encText s).length := by
  have := enc_pos s.size
  simp [encText]; omega
theorem row_addr {w : World} {B : Nat} {v : Value} {n : Nat} {xs : List Value} (h : w.ownsRow B 5 1 v n xs) (hn : 0 < n) : ∃ g cp, v = .slice (some ⟨g, 0, none⟩) n cp ∧ B ≤ g ∧ n ≤ cp ∧ cp ≤ maxLen := by
  obtain ⟨h1, ⟨h2, h3⟩ | ⟨g, cap, cur, ha, h4, h5, h6, h7, _⟩⟩ := h
  · omega
  · exact ⟨g, cap, ha, h4, h6, h7⟩
set_option maxRecDepth 100000 in
set_option maxHeartbeats 400000 in
theorem refList_any (v : Value) (l : List ByteArray) (w : World) (hl : Texts w v l) (hs : (encList l).length ≤ 100000) (hls : l.length ≤ 100000) : Calls Try.prog 27 #[v] w (RowPost w.heap.size w (encList l)) := by
  obtain ⟨i0, hi, hz0, hz1, hz2⟩ := info_parts Try.info5
  obtain ⟨ao, cp, rfl, hlm, hc⟩ := hl
  have HC := Lib.hid hc
  clear hc
  go_enter Try.func27, Try.ntmps27
  go_wp2_with fail
  refine (refNumber_any l.length (by omega) _).mono ?_
  rintro e w1 ⟨v1, rfl, hown1, hb1⟩
  go_wp2
  go_loopw [3, 4] (fun v i wr => ∃ j : Nat, i = .int .i64 j ∧ j ≤ l.length ∧ wr.ownsRow w.heap.size 5 1 v (encTo l j).length ((encTo l j).map (Value.int .u8)) ∧ Below w.heap.size w wr) (fun _ i _ => l.length - (intOf i).toNat)
  case atStart => exact ⟨0, rfl, by omega, by rw [encTo_zero]; exact hown1, hb1⟩
  case round =>
    clear hown1 hb1
    obtain ⟨j, rfl, hj, hown, hb⟩ := hrel
    by_cases hlt : j < l.length
    · obtain ⟨b, off, rfl, hcell⟩ := HC.out (by omega)
      have hc0 := hcell j hlt
      have h1 : wr.cell? ⟨b, off + j, none⟩ = some (.string (l.getD j ByteArray.empty)) := (hb.cell (World.block_lt_of_cell? w _ hc0)).trans hc0
      have hn := Lib.hid (encTo_succ l j hlt)
      have hle := encTo_le l (j + 1)
      rw [hn.out, List.length_append] at hle
      have hsz : (l.getD j ByteArray.empty).size ≤ 100000 := by
        have : (encText (l.getD j ByteArray.empty)).length = (enc (l.getD j ByteArray.empty).size).length + (l.getD j ByteArray.empty).size := by simp [encText, nums_length]
        omega
      have hpos := encText_pos (l.getD j ByteArray.empty)
      generalize hsg : l.getD j ByteArray.empty = s at h1 hn hle hsz hpos
      have HB := Lib.hid hb
      have HO := Lib.hid hown
      have HSZ := Lib.hid hsz
      clear hcell hsg hc0 hb hown hsz
      go_wp2_with fail
      refine (refText_any s HSZ.out _).mono ?_
      rintro e w2 ⟨v2, rfl, hown2, hb2⟩
      obtain ⟨g, cp2, rfl, hg, hgc, hgm⟩ := row_addr hown2 hpos
      have hbs := HB.out.size
      have hbs2 := hb2.size
      have HB2 := Lib.hid (HB.out.trans (hb2.mono hbs))
      have HO2 := Lib.hid (row_kept HO.out hb2)
      have HN := Lib.hid (hown2.cells (g := g) rfl)
      clear hown2 hb2
      go_wp2_with (at_builtin; go_loud (refine wpList_append_own _ rfl _ _ 23 rfl w.heap.size 5 i0 (.int .u8 0) 1 1 Try.underlying23 hi hz0 hz1 hz2 rfl (by decide) _ _ _ rfl HO2.out ⟨g, 0, none⟩ (encText s).length cp2 ((encText s).map (Value.int .u8)) rfl (by simp) HN.out (ints_oneCell _ _) ?c3 ?c4 ?c5 ?_))
      case c3 => unfold maxLen; omega
      case c4 => omega
      case c5 => omega
      intro v' w3 hown' hgrow _
      have HB3 := Lib.hid (HB2.out.grown hgrow (by omega) (fun k hk => (HO2.out.lt k hk).1))
      have HO3 := Lib.hid hown'
      clear hgrow hown'
      go_wp2
      go_roundw
      case rel => go_light; exact ⟨j + 1, by go_num, by omega, by rw [hn.out]; simpa using HO3.out, HB3.out⟩
      case measure => go_light; simp [intOf]; omega
    · obtain rfl : j = l.length := by omega
      rw [encTo_all] at hown
      have HB := Lib.hid hb
      have HO := Lib.hid hown
      clear hb hown
      go_wp2
      go_ret
      exact ⟨_, rfl, HO.out, HB.out⟩
end Go.Proofs.Ytcdgecdcfpedfaa
