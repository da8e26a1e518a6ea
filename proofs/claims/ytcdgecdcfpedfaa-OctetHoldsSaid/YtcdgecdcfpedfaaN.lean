/-
  PROVED: The law's works returns true and leaves what was there as it was. CONDITIONS: none.
-/
import Derived.Test.YtcdgecdcfpedfaaM
namespace Go.Proofs.Ytcdgecdcfpedfaa
open Go.RowKit Oc
theorem bytes_lit (W : World) (C : Array Value) (zs : List Int) (hC : C = (zs.map (Value.int .u8)).toArray) (hz : ∀ x ∈ zs, 0 ≤ x ∧ x ≤ 255) : Bytes (W.alloc (.cells C 5)) (some ⟨W.heap.size, 0, none⟩) zs.length zs := by
  subst hC
  refine ⟨rfl, hz, fun _ => ⟨W.heap.size, 0, rfl, fun i hi => ?_⟩⟩
  rw [Nat.zero_add]
  have : (W.alloc (.cells (zs.map (Value.int .u8)).toArray 5)).heap[W.heap.size]? = some (.cells (zs.map (Value.int .u8)).toArray 5 (0, 0)) := World.alloc_heap_new W _
  simp only [World.cell?, this]
  simp [List.getD, List.getElem?_eq_getElem hi]
/-- A row's bytes as a text. -/
theorem row_text {w : World} {B g n cp : Nat} {xs : List Int} (h : w.ownsRow B 5 1 (.slice (some ⟨g, 0, none⟩) n cp) n (xs.map (Value.int .u8))) (hn : xs.length = n) :
    (convert 23 9 (.slice (some ⟨g, 0, none⟩) n cp)).run Try.prog w = .ok (.string (strOfNums xs)) w :=
  run_convert_bytes_arg (P := Try.prog) w 23 5 Try.underlying23 Try.underlying5 g 0 n cp xs hn (fun i hi => by
    rw [Nat.zero_add, h.cellAt i (by omega)]
    simp [List.getD, List.getElem?_eq_getElem (show i < xs.length by omega)]) 9 Try.underlying9
theorem enc300 : enc 300 = [172, 2] := by
  rw [enc_ge (by decide), enc_lt (by decide)]; rfl
theorem enc1 : enc (Lib.zigzag (-1)) = [1] := by
  rw [show Lib.zigzag (-1) = 1 by decide, enc_lt (by decide)]; rfl
theorem enc2 : enc (Lib.zigzag 1) = [2] := by
  rw [show Lib.zigzag 1 = 2 by decide, enc_lt (by decide)]; rfl

theorem encAb : encList ([⟨⟨#[97, 98]⟩, by decide⟩, ⟨⟨#[]⟩, by decide⟩].map (Subtype.val (p := fun s : ByteArray => s.size ≤ 3000))) = [2, 2, 97, 98, 0] := by
  show encList [⟨#[97, 98]⟩, ⟨#[]⟩] = _
  unfold encList encText
  simp only [List.length_cons, List.length_nil, List.map_cons, List.map_nil, List.flatten_cons, List.flatten_nil, List.append_nil]
  rw [show (⟨#[97, 98]⟩ : ByteArray).size = 2 by decide, show (⟨#[]⟩ : ByteArray).size = 0 by decide, enc_lt (by decide), enc_lt (by decide)]
  decide

def Three (a b c : Int) (w : World) (e : Ending) (w' : World) : Prop := e = .returned (.tuple #[.int .u64 a, .int .i64 b, .int .i64 c]) ∧ Below w.heap.size w w'

set_option maxRecDepth 100000 in
set_option maxHeartbeats 1000000 in
theorem works_any (w : World) : Calls Try.prog 10 #[] w fun e w' => e = .returned (.bool true) ∧ Below w.heap.size w w' := by
  go_enter Try.func10, Try.ntmps10
  go_wp2_with fail
  refine (readNumber_any _ 2 2 [128, 0] _ (bytes_lit w _ [128, 0] rfl (by decide)) (by decide) (by decide)).mono ?_
  rintro e w1 ⟨he, hb1⟩
  rw [show rd [128, 0] 0 0 = (0, 0, 111) by decide] at he
  subst he
  have HB1 : Hid (Below w.heap.size w w1) := ((Below.refl _ w).alloc (Nat.le_refl _) _).trans (hb1.mono (by simp))
  clear hb1
  go_wp2_with fail
  refine (readNumber_any _ 3 3 [172, 2, 7] _ (bytes_lit w1 _ [172, 2, 7] rfl (by decide)) (by decide) (by decide)).mono ?_
  rintro e w2 ⟨he, hb1⟩
  rw [show rd [172, 2, 7] 0 0 = (300, 2, 0) by decide] at he
  subst he
  have HB2 : Hid (Below w.heap.size w w2) := (HB1.out.alloc HB1.out.size _).trans (hb1.mono (by have := HB1.out.size; simp; omega))
  clear hb1
  go_wp2_with fail
  refine (readNumber_any _ 1 1 [128] _ (bytes_lit w2 _ [128] rfl (by decide)) (by decide) (by decide)).mono ?_
  rintro e w3 ⟨he, hb1⟩
  rw [show rd [128] 0 0 = (0, 0, 110) by decide] at he
  subst he
  have HB3 : Hid (Below w.heap.size w w3) := (HB2.out.alloc HB2.out.size _).trans (hb1.mono (by have := HB2.out.size; simp; omega))
  clear hb1
  go_wp2_with fail
  refine (readSigned_any _ 1 1 [3] _ (bytes_lit w3 _ [3] rfl (by decide)) (by decide) (by decide)).mono ?_
  rintro e w4 ⟨he, hb1⟩
  rw [show rd [3] 0 0 = (3, 1, 0) by decide] at he
  subst he
  rw [show unzig (3, 1, (0 : Int)).1 = -2 by decide]
  have HB4 : Hid (Below w.heap.size w w4) := (HB3.out.alloc HB3.out.size _).trans (hb1.mono (by have := HB3.out.size; simp; omega))
  clear hb1
  go_wp2_with fail
  refine (readText_any _ 2 2 [3, 97] _ (bytes_lit w4 _ [3, 97] rfl (by decide)) (by decide) (by decide)).mono ?_
  rintro e w5 ⟨he, hb1⟩
  rw [show rdText [3, 97] = (ByteArray.empty, 0, 110) by unfold rdText; rw [show rd [3, 97] 0 0 = (3, 1, 0) by decide]; simp] at he
  subst he
  have HB5 : Hid (Below w.heap.size w w5) := (HB4.out.alloc HB4.out.size _).trans (hb1.mono (by have := HB4.out.size; simp; omega))
  clear hb1
  go_wp2_with fail
  refine (readList_any _ 3 3 [2, 0, 0] 1 _ (bytes_lit w5 _ [2, 0, 0] rfl (by decide)) (by decide) (by decide) (by decide) (by decide) (by decide)).mono ?_
  rintro e w6 ⟨v6, he, hb1, hown6, hnil⟩
  rw [show rdList [2, 0, 0] 1 = ([], 0, 3) by unfold rdList; rw [show rd [2, 0, 0] 0 0 = (2, 1, 0) by decide, if_neg (by simp), if_pos (by decide)]] at he hnil
  obtain rfl := hnil rfl
  subst he
  have HB6 : Hid (Below w.heap.size w w6) := (HB5.out.alloc HB5.out.size _).trans (hb1.mono (by have := HB5.out.size; simp; omega))
  clear hb1 hnil hown6
  go_wp2_with fail
  refine (number_any 300 (by decide) _).mono ?_
  rintro e w7 ⟨v7, rfl, ho7, hb7⟩
  rw [enc300] at ho7
  obtain ⟨g7, cp7, rfl, h7a, h7b, h7c⟩ := row_addr ho7 (by decide)
  have ht7 : (convert 23 9 (.slice (some ⟨g7, 0, none⟩) 2 cp7)).run Try.prog w7 = .ok (.string ⟨#[172, 2]⟩) w7 := row_text ho7 rfl
  have HB7 : Hid (Below w.heap.size w w7) := HB6.out.trans (hb7.mono HB6.out.size)
  clear ho7 hb7 h7a h7b h7c
  go_wp2_with (first | (go_at_call 17; refine (num_any _ _).mono ?_; rintro e w' ⟨rfl, rfl⟩) | fail)
  refine (signed_any (-1) (by decide) (by decide) _).mono ?_
  rintro e w8 ⟨v8, rfl, ho8, hb8⟩
  rw [enc1] at ho8
  obtain ⟨g8, cp8, rfl, h8a, h8b, h8c⟩ := row_addr ho8 (by decide)
  have ht8 : (convert 23 9 (.slice (some ⟨g8, 0, none⟩) 1 cp8)).run Try.prog w8 = .ok (.string ⟨#[1]⟩) w8 := row_text ho8 rfl
  have HB8 : Hid (Below w.heap.size w w8) := HB7.out.trans (hb8.mono HB7.out.size)
  clear ho8 hb8 h8a h8b h8c ht7
  go_wp2_with fail
  refine (signed_any 1 (by decide) (by decide) _).mono ?_
  rintro e w9 ⟨v9, rfl, ho9, hb9⟩
  rw [enc2] at ho9
  obtain ⟨g9, cp9, rfl, h9a, h9b, h9c⟩ := row_addr ho9 (by decide)
  have ht9 : (convert 23 9 (.slice (some ⟨g9, 0, none⟩) 1 cp9)).run Try.prog w9 = .ok (.string ⟨#[2]⟩) w9 := row_text ho9 rfl
  have HB9 : Hid (Below w.heap.size w w9) := HB8.out.trans (hb9.mono HB8.out.size)
  clear ho9 hb9 h9a h9b h9c ht8
  go_wp2_with fail
  refine (list_any _ [⟨⟨#[97, 98]⟩, by decide⟩, ⟨⟨#[]⟩, by decide⟩] _ ?_ (by decide)).mono ?_
  · refine ⟨_, _, rfl, by decide, fun _ => ⟨w9.heap.size, 0, rfl, fun i hi => ?_⟩⟩
    match i, hi with
    | 0, _ => simp
    | 1, _ => simp
  rintro e w10 ⟨v10, rfl, ho10, hb10⟩
  rw [encAb] at ho10
  obtain ⟨g10, cp10, rfl, h10a, h10b, h10c⟩ := row_addr ho10 (by decide)
  have ht10 : (convert 23 9 (.slice (some ⟨g10, 0, none⟩) 5 cp10)).run Try.prog w10 = .ok (.string ⟨#[2, 2, 97, 98, 0]⟩) w10 := row_text ho10 rfl
  have HB10 : Hid (Below w.heap.size w w10) := (HB9.out.alloc HB9.out.size _).trans (hb10.mono (by have := HB9.out.size; simp; omega))
  clear ho10 hb10 h10a h10b h10c ht9
  go_wp2_with (first | (go_at_call 17; refine (num_any _ _).mono ?_; rintro e w' ⟨rfl, rfl⟩) | fail)
  go_ret
  exact ⟨rfl, HB10.out⟩
end Go.Proofs.Ytcdgecdcfpedfaa
