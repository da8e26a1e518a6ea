/-
  PROVED: The walk of the law OctetLists: it returns true and leaves what was there as it was. CONDITIONS: the slices came in; the number is an int.
-/
import Derived.Test.YtcdgecdcfpedfaaT
namespace Go.Proofs.Ytcdgecdcfpedfaa
open Go.RowKit Oc
theorem short_of : ∀ (l : List ByteArray), (∀ s ∈ l, s.size ≤ 3000) → ∃ ls : List Short, ls.map Subtype.val = l
  | [], _ => ⟨[], rfl⟩
  | s :: l, h => by
    obtain ⟨ls, e⟩ := short_of l (fun x hx => h x (by simp [hx]))
    exact ⟨⟨s, h s (by simp)⟩ :: ls, by simp [e]⟩
theorem tot_each (l : List ByteArray) : ∀ s ∈ l, s.size ≤ tot l l.length := by
  unfold tot
  rw [List.take_length]
  induction l with
  | nil => simp
  | cons x l ih =>
    intro s hs
    rcases List.mem_cons.1 hs with rfl | hs
    · simp
    · have := ih s hs
      simp; omega
theorem encList_pos (l : List ByteArray) : 0 < (encList l).length := by
  have := enc_pos l.length
  simp only [encList, List.length_append]; omega
theorem flat_short (l : List ByteArray) (hs : ∀ s ∈ l, s.size ≤ 3000) : ((l.map encText).flatten).length ≤ 10 * l.length + tot l l.length := by
  unfold tot
  rw [List.take_length]
  induction l with
  | nil => simp
  | cons x l ih =>
    have h1 := ih (fun s h => hs s (by simp [h]))
    have h2 := enc_len10 (n := x.size) (by have := hs x (by simp); omega)
    simp only [List.map_cons, List.flatten_cons, List.length_append, List.length_cons, List.sum_cons, encText, nums_length]
    omega
theorem encList_short (l : List ByteArray) (h1 : l.length ≤ 200) (h2 : tot l l.length ≤ 3000) : (encList l).length ≤ 10000 := by
  have h3 := flat_short l (fun s hs => Nat.le_trans (tot_each l s hs) h2)
  have h4 := enc_len10 (n := l.length) (by omega)
  simp only [encList, List.length_append]; omega
theorem nums_fits (s : ByteArray) : ∀ x ∈ nums s, 0 ≤ x ∧ x ≤ 255 := by
  intro x hx
  obtain ⟨b, _, rfl⟩ := List.mem_map.1 hx
  have := b.toNat_lt
  omega
theorem encList_fits (l : List ByteArray) : ∀ x ∈ encList l, 0 ≤ x ∧ x ≤ 255 := by
  refine bytes_two (enc_fits _) ?_
  intro x hx
  obtain ⟨t, ht, hx⟩ := List.mem_flatten.1 hx
  obtain ⟨s, _, rfl⟩ := List.mem_map.1 ht
  exact bytes_two (enc_fits _) (nums_fits s) x hx
theorem below_of_drew {w b : World} (h : Below w.drew.heap.size w.drew b) : Below w.heap.size w b := ⟨h.os, h.tape, h.output, h.size, h.block⟩
set_option maxRecDepth 100000 in
set_option maxHeartbeats 4000000 in
theorem lists_law (v : Value) (l : List ByteArray) (a : Option Addr) (len cap : Nat) (zs : List Int) (more : Int) (w : World) (hT : Texts w v l) (hsz : ∀ s ∈ l, s.size ≤ 9223372036854775807) (h : CameIn w a len cap zs) (hm0 : -9223372036854775808 ≤ more) (hm1 : more ≤ 9223372036854775807) :
    Calls Try.prog 6 #[v, .slice a len cap, .int .i64 more] w fun e w' => e = .returned (.bool true) ∧ Below w.heap.size w w' := by
  obtain ⟨hz, hn, hlc, hc⟩ := h
  have HZ := Lib.hid hz
  have HNN := Lib.hid hn
  have HL := Lib.hid hz.1
  have HS := Lib.hid hsz
  have HT := Lib.hid hT
  have HM0 := Lib.hid hm0
  have HM1 := Lib.hid hm1
  clear hz hn hsz hm0 hm1
  obtain ⟨ao, cp, rfl, hlm, -⟩ := hT
  by_cases h1 : (200 : Int) < (len : Int)
  all_goals by_cases h2 : more < -1
  all_goals by_cases h3 : 1 < more
  rotate_left 7
  · go_enter Try.func6, Try.ntmps6
    go_wp2_with fail
    refine (few_any _ l _ HT.out HS.out).mono ?_
    rintro e w1 ⟨b, rfl, hb, hb1⟩
    have HB1 := Lib.hid hb1
    clear hb1
    cases b with
    | false =>
      go_wp2_with fail
      refine (works_any _).mono ?_
      rintro e w2 ⟨rfl, hb2⟩
      have HB2 := Lib.hid (HB1.out.trans (hb2.mono HB1.out.size))
      clear hb2
      go_wp2
      go_ret
      exact ⟨rfl, HB2.out⟩
    | true =>
      obtain ⟨hl2, ht2⟩ := hb rfl
      clear hb
      obtain ⟨ls, hls⟩ := short_of l (fun s hs => Nat.le_trans (tot_each l s hs) ht2)
      have HEL := Lib.hid (Nat.le_trans (encList_short l hl2 ht2) (show 10000 ≤ 100000 by decide))
      have HE2 := Lib.hid (encList_short l hl2 ht2)
      have HTA : Hid (Texts w1 (.slice ao l.length cp) l) := Lib.hid (HT.out.below HB1.out)
      have HLS := Lib.hid hls
      have HLL : Hid (ls.length ≤ 200) := Lib.hid (by rw [← hls, List.length_map] at hl2; exact hl2)
      clear hls ht2
      go_wp2_with fail
      refine (list_any _ ls _ (by rw [HLS.out]; exact HTA.out) HLL.out).mono ?_
      rw [HLS.out]
      rintro e w7 ⟨v7, rfl, ho7, hb7⟩
      obtain ⟨g7, cp7, rfl, -, hc7, hm7⟩ := row_addr ho7 (encList_pos _)
      unfold maxLen at hm7
      have HO7 := Lib.hid ho7
      have HTB : Hid (Texts w7 (.slice ao l.length cp) l) := Lib.hid (HTA.out.below hb7)
      have HB7 := Lib.hid (HB1.out.trans (hb7.mono HB1.out.size))
      clear ho7 hb7
      go_upto_region 4 with fail
      go_cut [35] (fun s35 wx => s35 = .bool false ∧ Below w7.heap.size w7 wx)
      case first =>
        have h7d := row_text' HO7.out.drew
        refine wp_region_any (by kernel_rfl) ?_
        change wpAny _ _ _ _ _ _ _ (World.drew _)
        refine wpAny_take (i := 0) (oi := ⟨some 30, _, _, _, _, _⟩) (v := ?_) rfl (by kernel_rfl) (by kernel_rfl) (by kernel_rfl) (fun _ _ _ h => h) (Or.inl ⟨by rfl, ?_⟩) ?_
        rotate_left
        · intro W; go_simp; with_reducible rfl
        (try simp only [Act.put, List.setIfInBounds_toArray, List.set_cons_zero, List.set_cons_succ])
        refine wpAny_take (i := 2) (oi := ⟨some 32, _, _, _, _, _⟩) (v := ?_) rfl (by kernel_rfl) (by kernel_rfl) (by kernel_rfl) (fun _ _ _ h => h) (Or.inl ⟨by rfl, ?_⟩) ?_
        rotate_left
        · intro W; go_simp; with_reducible rfl
        (try simp only [Act.put, List.setIfInBounds_toArray, List.set_cons_zero, List.set_cons_succ])
        refine wpAny_ready (rs := [1, 3]) (by kernel_rfl) (by simp) ?_
        refine AllReady.cons (o := ⟨some 31, _, _, _, _, _⟩) rfl (fun K hK => ?_) (AllReady.cons (o := ⟨some 33, _, _, _, _, _⟩) rfl (fun K hK => ?_) (AllReady.nil))
        · go_simp
          refine hK _ _ ?_
          clear hK K
          (try simp only [Act.put, List.setIfInBounds_toArray, List.set_cons_zero, List.set_cons_succ])
          refine wpAny_ready (rs := [3]) (by kernel_rfl) (by simp) ?_
          refine AllReady.cons (o := ⟨some 33, _, _, _, _, _⟩) rfl (fun K hK => ?_) (AllReady.nil)
          go_simp
          refine (refList_any _ l _ (HTB.out.below (Below.refl _ _).drew) HEL.out (by omega)).mono ?_
          rintro e w4 ⟨v4, rfl, ho4, hb4⟩
          obtain ⟨g4, cp4, rfl, -⟩ := row_addr ho4 (encList_pos _)
          have hc4 := row_text' ho4
          have HK4 := Lib.hid ho4
          have h74 := row_text' (row_kept HO7.out.drew hb4)
          have HB4 := Lib.hid hb4
          clear ho4 hb4
          refine hK _ _ ?_
          clear hK K
          (try simp only [Act.put, List.setIfInBounds_toArray, List.set_cons_zero, List.set_cons_succ])
          refine wpAny_ready (rs := [4]) (by kernel_rfl) (by simp) ?_
          refine AllReady.cons (o := ⟨some 34, _, _, _, _, _⟩) rfl (fun K hK => ?_) (AllReady.nil)
          go_simp
          refine hK _ _ ?_
          clear hK K
          (try simp only [Act.put, List.setIfInBounds_toArray, List.set_cons_zero, List.set_cons_succ])
          refine wpAny_take (i := 5) (oi := ⟨some 35, _, _, _, _, _⟩) (v := ?_) rfl (by kernel_rfl) (by kernel_rfl) (by kernel_rfl) (fun _ _ _ h => h) (Or.inl ⟨by rfl, ?_⟩) ?_
          rotate_left
          · intro W; go_simp; with_reducible rfl
          (try simp only [Act.put, List.setIfInBounds_toArray, List.set_cons_zero, List.set_cons_succ])
          refine wpAny_done (by kernel_rfl) ?_ _
          go_wp2_with fail
          go_meet
          exact ⟨rfl, below_of_drew HB4.out⟩
        · go_simp
          refine (refList_any _ l _ (HTB.out.below (Below.refl _ _).drew) HEL.out (by omega)).mono ?_
          rintro e w4 ⟨v4, rfl, ho4, hb4⟩
          obtain ⟨g4, cp4, rfl, -⟩ := row_addr ho4 (encList_pos _)
          have hc4 := row_text' ho4
          have HK4 := Lib.hid ho4
          have h74 := row_text' (row_kept HO7.out.drew hb4)
          have HB4 := Lib.hid hb4
          clear ho4 hb4
          refine hK _ _ ?_
          clear hK K
          (try simp only [Act.put, List.setIfInBounds_toArray, List.set_cons_zero, List.set_cons_succ])
          refine wpAny_ready (rs := [1, 4]) (by kernel_rfl) (by simp) ?_
          refine AllReady.cons (o := ⟨some 31, _, _, _, _, _⟩) rfl (fun K hK => ?_) (AllReady.cons (o := ⟨some 34, _, _, _, _, _⟩) rfl (fun K hK => ?_) (AllReady.nil))
          · go_simp
            refine hK _ _ ?_
            clear hK K
            (try simp only [Act.put, List.setIfInBounds_toArray, List.set_cons_zero, List.set_cons_succ])
            refine wpAny_ready (rs := [4]) (by kernel_rfl) (by simp) ?_
            refine AllReady.cons (o := ⟨some 34, _, _, _, _, _⟩) rfl (fun K hK => ?_) (AllReady.nil)
            go_simp
            refine hK _ _ ?_
            clear hK K
            (try simp only [Act.put, List.setIfInBounds_toArray, List.set_cons_zero, List.set_cons_succ])
            refine wpAny_take (i := 5) (oi := ⟨some 35, _, _, _, _, _⟩) (v := ?_) rfl (by kernel_rfl) (by kernel_rfl) (by kernel_rfl) (fun _ _ _ h => h) (Or.inl ⟨by rfl, ?_⟩) ?_
            rotate_left
            · intro W; go_simp; with_reducible rfl
            (try simp only [Act.put, List.setIfInBounds_toArray, List.set_cons_zero, List.set_cons_succ])
            refine wpAny_done (by kernel_rfl) ?_ _
            go_wp2_with fail
            go_meet
            exact ⟨rfl, below_of_drew HB4.out⟩
          · go_simp
            refine hK _ _ ?_
            clear hK K
            (try simp only [Act.put, List.setIfInBounds_toArray, List.set_cons_zero, List.set_cons_succ])
            refine wpAny_ready (rs := [1]) (by kernel_rfl) (by simp) ?_
            refine AllReady.cons (o := ⟨some 31, _, _, _, _, _⟩) rfl (fun K hK => ?_) (AllReady.nil)
            go_simp
            refine hK _ _ ?_
            clear hK K
            (try simp only [Act.put, List.setIfInBounds_toArray, List.set_cons_zero, List.set_cons_succ])
            refine wpAny_take (i := 5) (oi := ⟨some 35, _, _, _, _, _⟩) (v := ?_) rfl (by kernel_rfl) (by kernel_rfl) (by kernel_rfl) (fun _ _ _ h => h) (Or.inl ⟨by rfl, ?_⟩) ?_
            rotate_left
            · intro W; go_simp; with_reducible rfl
            (try simp only [Act.put, List.setIfInBounds_toArray, List.set_cons_zero, List.set_cons_succ])
            refine wpAny_done (by kernel_rfl) ?_ _
            go_wp2_with fail
            go_meet
            exact ⟨rfl, below_of_drew HB4.out⟩
      case rest =>
        obtain ⟨rfl, hbc⟩ := hcut
        have HBC := Lib.hid (HB7.out.trans (hbc.mono HB7.out.size))
        have HO7c := Lib.hid (row_kept HO7.out hbc)
        have HTC : Hid (Texts wc (.slice ao l.length cp) l) := Lib.hid (HTB.out.below hbc)
        clear hbc
        have HZc : Hid (Bytes wc a len zs) := Lib.hid (HZ.out.below HBC.out (Nat.le_refl _))
        have HO0 : Hid ((wc.alloc (.cells #[] 5)).ownsRow wc.heap.size 5 1 (.slice (some ⟨wc.heap.size, 0, none⟩) 0 0) 0 []) := World.ownsRow_lit wc #[] 0 (Nat.le_refl _) (Nat.zero_le _) rfl
        have HQ7 : Hid (Bytes (wc.alloc (.cells #[] 5)) (some ⟨g7, 0, none⟩) (encList l).length (encList l)) := Lib.hid (row_bytes (HO7c.out.alloc _) (encList_fits l))
        go_wp2_with (at_builtin; refine wpList_append_bytes rfl (.tmp 37) (.tmp 38) rfl wc.heap.size _ _ _ rfl HO0.out _ _ _ _ rfl HQ7.out (by simp) hc7 (by have := HE2.out; omega) (by simp) ?_)
        intro va wa howna hgrowa
        have HBa := Lib.hid (((Below.refl _ wc).alloc (Nat.le_refl _) _).grown hgrowa (by simp) (fun k hk => (HO0.out.lt k hk).1))
        have HOa := Lib.hid howna
        have hsa := HBa.out.size
        clear hgrowa howna
        go_wp2_with (at_builtin; refine wpList_append_bytes rfl (.tmp 39) (.tmp 40) rfl wc.heap.size _ _ _ rfl HOa.out a len cap zs rfl (HZc.out.below HBa.out (Nat.le_refl _)) HNN.out hlc (by have := HE2.out; omega) hsa ?_)
        intro vb wb hownb hgrowb
        have HBb := Lib.hid (HBa.out.grown hgrowb hsa (fun k hk => (HOa.out.lt k hk).1))
        obtain ⟨gb, cpb, rfl, -, hcb, hmb⟩ := row_addr hownb (by have := encList_pos l; omega)
        unfold maxLen at hmb
        have HQb : Hid (Bytes wb (some ⟨gb, 0, none⟩) ((encList l).length + len) (encList l ++ zs)) := Lib.hid (row_bytes_eq hownb (by rw [List.length_append, HL.out]) (by simp) (bytes_two (encList_fits l) HZ.out.2.1))
        clear hgrowb hownb
        have HRD := Lib.hid (rdList_enc l zs ((l.length : Int) + more) (by omega) (fun s hs => by have := HS.out s hs; omega))
        go_wp2_with fail
        refine (readList_any _ _ cpb _ ((l.length : Int) + more) _ HQb.out (by omega) (by omega) hcb hmb (by have := HE2.out; omega)).mono ?_
        rintro e w9 ⟨v9, rfl, hb9, ho9, hnil9⟩
        rw [HRD.out] at ho9 hnil9 ⊢
        have HB9 := Lib.hid (HBb.out.trans (hb9.mono HBb.out.size))
        have HTD : Hid (Texts w9 (.slice ao l.length cp) l) := Lib.hid (HTC.out.below HB9.out)
        have HBD := Lib.hid (HBC.out.trans (HB9.out.mono HBC.out.size))
        clear hb9
        by_cases hq : max 0 ((l.length : Int) + more) < (l.length : Int)
        · rw [if_pos hq] at ho9 hnil9 ⊢
          obtain rfl := hnil9 rfl
          clear ho9
          have hm : more < 0 := by omega
          have hl0 : (0 : Int) < (l.length : Int) := by omega
          go_wp2_with (first | (go_at_call 17; refine (num_any _ _).mono ?_; rintro e w' ⟨rfl, rfl⟩) | fail)
          refine (works_any _).mono ?_
          rintro e wk ⟨rfl, hbk⟩
          have HBz := Lib.hid (HBD.out.trans (hbk.mono HBD.out.size))
          clear hbk
          go_wp2
          go_ret
          exact ⟨rfl, HBz.out⟩
        · rw [if_neg hq] at ho9 hnil9 ⊢
          have HO9 : Hid (Texts w9 v9 l) := Lib.hid (Texts.of_own ho9)
          clear ho9 hnil9
          have hfin : more < 0 → ¬ (0 : Int) < (l.length : Int) := by omega
          by_cases hm : more < 0
          · have hl0 := hfin hm
            go_wp2_with fail
            refine (same_yes _ _ l _ HO9.out HTD.out).mono ?_
            rintro e wj ⟨rfl, hbj⟩
            have HBj := Lib.hid (HBD.out.trans (hbj.mono HBD.out.size))
            clear hbj
            go_wp2_with (first | (go_at_call 17; refine (num_any _ _).mono ?_; rintro e w' ⟨rfl, rfl⟩) | fail)
            refine (works_any _).mono ?_
            rintro e wk ⟨rfl, hbk⟩
            have HBz := Lib.hid (HBj.out.trans (hbk.mono HBj.out.size))
            clear hbk
            go_wp2
            go_ret
            exact ⟨rfl, HBz.out⟩
          · clear hfin
            go_wp2_with fail
            refine (same_yes _ _ l _ HO9.out HTD.out).mono ?_
            rintro e wj ⟨rfl, hbj⟩
            have HBj := Lib.hid (HBD.out.trans (hbj.mono HBD.out.size))
            clear hbj
            go_wp2_with (first | (go_at_call 17; refine (num_any _ _).mono ?_; rintro e w' ⟨rfl, rfl⟩) | fail)
            refine (works_any _).mono ?_
            rintro e wk ⟨rfl, hbk⟩
            have HBz := Lib.hid (HBj.out.trans (hbk.mono HBj.out.size))
            clear hbk
            go_wp2
            go_ret
            exact ⟨rfl, HBz.out⟩
  · go_enter Try.func6, Try.ntmps6
    go_wp2_with fail
    refine (few_any _ l _ HT.out HS.out).mono ?_
    rintro e w1 ⟨b, rfl, -, hb1⟩
    have HB1 := Lib.hid hb1
    clear hb1
    cases b <;>
    (
      go_wp2_with fail
      refine (works_any _).mono ?_
      rintro e w2 ⟨rfl, hb2⟩
      have HB2 := Lib.hid (HB1.out.trans (hb2.mono HB1.out.size))
      clear hb2
      go_wp2
      go_ret
      exact ⟨rfl, HB2.out⟩
    )
  · go_enter Try.func6, Try.ntmps6
    go_wp2_with fail
    refine (few_any _ l _ HT.out HS.out).mono ?_
    rintro e w1 ⟨b, rfl, -, hb1⟩
    have HB1 := Lib.hid hb1
    clear hb1
    cases b <;>
    (
      go_wp2_with fail
      refine (works_any _).mono ?_
      rintro e w2 ⟨rfl, hb2⟩
      have HB2 := Lib.hid (HB1.out.trans (hb2.mono HB1.out.size))
      clear hb2
      go_wp2
      go_ret
      exact ⟨rfl, HB2.out⟩
    )
  · go_enter Try.func6, Try.ntmps6
    go_wp2_with fail
    refine (few_any _ l _ HT.out HS.out).mono ?_
    rintro e w1 ⟨b, rfl, -, hb1⟩
    have HB1 := Lib.hid hb1
    clear hb1
    cases b <;>
    (
      go_wp2_with fail
      refine (works_any _).mono ?_
      rintro e w2 ⟨rfl, hb2⟩
      have HB2 := Lib.hid (HB1.out.trans (hb2.mono HB1.out.size))
      clear hb2
      go_wp2
      go_ret
      exact ⟨rfl, HB2.out⟩
    )
  · go_enter Try.func6, Try.ntmps6
    go_wp2_with fail
    refine (few_any _ l _ HT.out HS.out).mono ?_
    rintro e w1 ⟨b, rfl, -, hb1⟩
    have HB1 := Lib.hid hb1
    clear hb1
    cases b <;>
    (
      go_wp2_with fail
      refine (works_any _).mono ?_
      rintro e w2 ⟨rfl, hb2⟩
      have HB2 := Lib.hid (HB1.out.trans (hb2.mono HB1.out.size))
      clear hb2
      go_wp2
      go_ret
      exact ⟨rfl, HB2.out⟩
    )
  · go_enter Try.func6, Try.ntmps6
    go_wp2_with fail
    refine (few_any _ l _ HT.out HS.out).mono ?_
    rintro e w1 ⟨b, rfl, -, hb1⟩
    have HB1 := Lib.hid hb1
    clear hb1
    cases b <;>
    (
      go_wp2_with fail
      refine (works_any _).mono ?_
      rintro e w2 ⟨rfl, hb2⟩
      have HB2 := Lib.hid (HB1.out.trans (hb2.mono HB1.out.size))
      clear hb2
      go_wp2
      go_ret
      exact ⟨rfl, HB2.out⟩
    )
  · go_enter Try.func6, Try.ntmps6
    go_wp2_with fail
    refine (few_any _ l _ HT.out HS.out).mono ?_
    rintro e w1 ⟨b, rfl, -, hb1⟩
    have HB1 := Lib.hid hb1
    clear hb1
    cases b <;>
    (
      go_wp2_with fail
      refine (works_any _).mono ?_
      rintro e w2 ⟨rfl, hb2⟩
      have HB2 := Lib.hid (HB1.out.trans (hb2.mono HB1.out.size))
      clear hb2
      go_wp2
      go_ret
      exact ⟨rfl, HB2.out⟩
    )
  · go_enter Try.func6, Try.ntmps6
    go_wp2_with fail
    refine (few_any _ l _ HT.out HS.out).mono ?_
    rintro e w1 ⟨b, rfl, -, hb1⟩
    have HB1 := Lib.hid hb1
    clear hb1
    cases b <;>
    (
      go_wp2_with fail
      refine (works_any _).mono ?_
      rintro e w2 ⟨rfl, hb2⟩
      have HB2 := Lib.hid (HB1.out.trans (hb2.mono HB1.out.size))
      clear hb2
      go_wp2
      go_ret
      exact ⟨rfl, HB2.out⟩
    )
end Go.Proofs.Ytcdgecdcfpedfaa
