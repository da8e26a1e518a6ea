/-
  PROVED: Contracts of Text, the program's and the reference's. CONDITIONS: a text of at most 100000 bytes.
-/
import Derived.Test.YtcdgecdcfpedfaaJ
import Derived.Lib.AppendStr
import Derived.Laws.AppendOwnNone
namespace Go.Proofs.Ytcdgecdcfpedfaa
open Go.RowKit Oc
/-- A text's letters, as numbers. -/
def nums (s : ByteArray) : List Int := s.data.toList.map (fun b => (b.toNat : Int))
theorem nums_cells (s : ByteArray) : Lib.strCells s = (nums s).map (Value.int .u8) := by
  unfold Lib.strCells nums; rw [List.map_map]; rfl
theorem nums_length (s : ByteArray) : (nums s).length = s.size := by rw [nums, List.length_map, Array.length_toList]; rfl
def encText (s : ByteArray) : List Int := enc s.size ++ nums s
set_option maxRecDepth 100000 in
set_option maxHeartbeats 400000 in
theorem text_any (s : ByteArray) (hs : s.size ≤ 100000) (w : World) : Calls Try.prog 23 #[.string s] w (RowPost w.heap.size w (encText s)) := by
  obtain ⟨i0, hi, hz0, hz1, hz2⟩ := info_parts Try.info5
  have HE := Lib.hid (enc_len10 (n := s.size) (by omega))
  go_enter Try.func23, Try.ntmps23
  go_wp2_with fail
  refine (number_any s.size (by omega) _).mono ?_
  rintro e w1 ⟨v, rfl, hown, hb⟩
  have hbs := hb.size
  go_wp2_with (at_builtin; go_loud (refine Lib.wpList_append_own_string _ rfl _ _ 23 9 rfl w.heap.size 5 i0 Try.underlying23 Try.underlying9 hi hz0 hz1 hz2 _ _ _ rfl hown s rfl ?c3 ?c4 hbs ?_))
  case c3 => unfold maxLen; have := HE.out; omega
  case c4 => have := HE.out; omega
  intro v' w2 hown' hgrow _
  have hb2 := hb.grown hgrow hbs (fun k hk => (hown.lt k hk).1)
  go_wp2
  go_ret
  exact ⟨_, rfl, by simpa [encText, nums_length, nums_cells] using hown', hb2⟩
set_option maxRecDepth 100000 in
set_option maxHeartbeats 400000 in
theorem refText_any (s : ByteArray) (hs : s.size ≤ 100000) (w : World) : Calls Try.prog 24 #[.string s] w (RowPost w.heap.size w (encText s)) := by
  obtain ⟨i0, hi, hz0, hz1, hz2⟩ := info_parts Try.info5
  have HE := Lib.hid (enc_len10 (n := s.size) (by omega))
  go_enter Try.func24, Try.ntmps24
  go_wp2_with fail
  refine (refNumber_any s.size (by omega) _).mono ?_
  rintro e w1 ⟨v, rfl, hown, hb⟩
  have hbs := hb.size
  go_wp2_with (at_builtin; go_loud (refine Lib.wpList_append_own_string _ rfl _ _ 23 9 rfl w.heap.size 5 i0 Try.underlying23 Try.underlying9 hi hz0 hz1 hz2 _ _ _ rfl hown s rfl ?c3 ?c4 hbs ?_))
  case c3 => unfold maxLen; have := HE.out; omega
  case c4 => have := HE.out; omega
  intro v' w2 hown' hgrow _
  have hb2 := hb.grown hgrow hbs (fun k hk => (hown.lt k hk).1)
  go_wp2
  go_ret
  exact ⟨_, rfl, by simpa [encText, nums_length, nums_cells] using hown', hb2⟩
end Go.Proofs.Ytcdgecdcfpedfaa
