/-
  PROVED: The contract of the reference's Learn. CONDITIONS: at most 1000 statuses, which lie in the world; the site is an int.
-/
import Derived.Test.YthlkahpglabnbaaI
namespace Go.Proofs.Ythlkahpglabnbaa
open Go.RowKit
set_option maxRecDepth 100000
set_option maxHeartbeats 2000000
theorem refLearn_any (n l s : Int) (v : Value) (xs : List St) (at_ : Int) (x : St) (w : World) (h : Stats w v xs) (hn : ∀ m c, v = .slice none m c → c = 0) (hsz : xs.length ≤ 1000) (ha0 : -9223372036854775808 ≤ at_) (ha1 : at_ ≤ 9223372036854775807) :
    Calls Try.prog 10 #[shapeV n l s, v, .int .i64 at_, x.val] w (LearnPost (learn n l s xs at_ x) w) := by
  have HST := Lib.hid h
  have HN := Lib.hid hn
  have HRL := Lib.hid (fun w h => refList_any n l s v xs w h)
  have HCK := Lib.hid (refRight_any x)
  have HMO := Lib.hid (fun y => refMore_any x y)
  obtain ⟨ao, cp, rfl, hl, -⟩ := h
  generalize hr : learn n l s xs at_ x = r
  have HR0 := Lib.hid hr
  clear hr hn
  unfold learn at HR0
  by_cases hA : listOk n l s xs = true
  · by_cases hB : x.ok = true
    · by_cases hC : 0 ≤ at_ ∧ at_.toNat < xs.length
      · rw [hA] at HRL HR0
        rw [hB] at HCK HR0
        rw [dif_pos hC] at HR0
        obtain ⟨hC0, hC1⟩ := hC
        obtain ⟨k, hk⟩ := Int.eq_ofNat_of_zero_le hC0
        subst hk
        have hlt : k < xs.length := by simpa using hC1
        have HR : Hid ((if x.more xs[k] then (xs.set k x, true, 0) else (xs, false, 0)) = r) := Lib.hid (by simpa using HR0.out)
        have HMY := Lib.hid (HMO.out xs[k])
        clear HR0 hA hB hC0 hC1
        simp only [St.val, shapeV] at *
        go_enter Try.func10, Try.ntmps10
        go_wp2_with fail
        refine (HRL.out _ (HST.out.below ((below_new _).alloc (by simp) _) (Nat.le_refl _))).mono ?_
        rintro e w1 ⟨rfl, hb⟩
        have HB0 := Lib.hid (((below_new _).alloc (by simp) _).trans (hb.mono (by simp; omega)))
        have q0 := (hb.cell (p := ⟨w.heap.size + 1, 0, none⟩) (by simp)).trans (show _ = some (.int .i64 x.over) by simp)
        have q1 := (hb.cell (p := ⟨w.heap.size + 1, 1, none⟩) (by simp)).trans (show _ = some (.bool x.pend) by simp)
        have q2 := (hb.cell (p := ⟨w.heap.size + 1, 2, none⟩) (by simp)).trans (show _ = some (.int .i64 x.mode) by simp)
        have q3 := (hb.cell (p := ⟨w.heap.size + 1, 3, none⟩) (by simp)).trans (show _ = some (.int .i64 x.prio) by simp)
        have hsz1 : w.heap.size + 1 < w1.heap.size := by have := hb.size; simp at this; omega
        clear hb
        go_wp2_with fail
        refine (HCK.out _).mono ?_
        rintro e w2 ⟨rfl, hb⟩
        have HB := Lib.hid (HB0.out.trans (hb.mono HB0.out.size))
        have q0 := (hb.cell (p := ⟨w.heap.size + 1, 0, none⟩) hsz1).trans q0
        have q1 := (hb.cell (p := ⟨w.heap.size + 1, 1, none⟩) hsz1).trans q1
        have q2 := (hb.cell (p := ⟨w.heap.size + 1, 2, none⟩) hsz1).trans q2
        have q3 := (hb.cell (p := ⟨w.heap.size + 1, 3, none⟩) hsz1).trans q3
        have hsz2 := Nat.lt_of_lt_of_le hsz1 hb.size
        clear hb hsz1
        have HO : Hid ((w2.alloc (.cells #[] 27)).ownsRow w2.heap.size 27 4 (.slice (some ⟨w2.heap.size, 0, none⟩) 0 0) 0 []) := World.ownsRow_lit w2 #[] 0 (Nat.le_refl _) (Nat.zero_le _) rfl
        have HS2 : Hid (Stats (w2.alloc (.cells #[] 27)) (.slice ao xs.length cp) xs) := Lib.hid (HST.out.below (HB.out.alloc HB.out.size _) (Nat.le_refl _))
        go_wp2_with (at_builtin; refine wpList_append_stats rfl (.tmp 29) (.tmp 30) rfl w2.heap.size _ _ _ rfl HO.out _ xs rfl HS2.out HN.out (by omega) (by simp) ?_)
        intro v3 w3 ho3 hg3
        have hb := ((below_new (w := w2) (.cells #[] 27)).grown hg3 (by simp) (fun k hk => (HO.out.lt k hk).1))
        have HB3 := Lib.hid (HB.out.trans (hb.mono HB.out.size))
        have q0 := (hb.cell (p := ⟨w.heap.size + 1, 0, none⟩) hsz2).trans q0
        have q1 := (hb.cell (p := ⟨w.heap.size + 1, 1, none⟩) hsz2).trans q1
        have q2 := (hb.cell (p := ⟨w.heap.size + 1, 2, none⟩) hsz2).trans q2
        have q3 := (hb.cell (p := ⟨w.heap.size + 1, 3, none⟩) hsz2).trans q3
        have hsz3 := Nat.lt_of_lt_of_le hsz2 hb.size
        obtain ⟨g, cp3, rfl, hg, hgc, hgm⟩ := row_addr ho3 (by omega)
        unfold maxLen at hgm
        have hsg : w2.heap.size ≤ g := hg
        obtain ⟨c0, c1, c2, c3⟩ := row_cell ho3 rfl k hlt
        have HO3 := Lib.hid ho3
        clear hb hg3 ho3 hg
        generalize hy : xs[k] = y at c0 c1 c2 c3 HMY HR
        have HY := Lib.hid hy
        clear hy
        generalize hmo : x.more y = mo at HMY HR
        have HMO2 := Lib.hid hmo
        clear hmo
        go_upto_region 6 with fail
        go_cut [38] (fun s38 wx => s38 = .bool (!mo) ∧ Below w.heap.size w wx ∧ wx.ownsRow w2.heap.size 27 4 (.slice (some ⟨g, 0, none⟩) xs.length cp3) xs.length (flat xs) ∧ wx.cell? ⟨w.heap.size + 1, 0, none⟩ = some (.int .i64 x.over) ∧ wx.cell? ⟨w.heap.size + 1, 1, none⟩ = some (.bool x.pend) ∧ wx.cell? ⟨w.heap.size + 1, 2, none⟩ = some (.int .i64 x.mode) ∧ wx.cell? ⟨w.heap.size + 1, 3, none⟩ = some (.int .i64 x.prio))
        case first =>
          refine wp_region_any (by kernel_rfl) ?_
          change wpAny _ _ _ _ _ _ _ (World.drew _)
          refine wpAny_take (i := 1) (oi := ⟨some 33, _, _, _, _, _⟩) (v := ?_) rfl (by kernel_rfl) (by kernel_rfl) (by kernel_rfl) (fun _ _ _ h => h) (Or.inl ⟨by rfl, ?_⟩) ?_
          rotate_left
          · intro W; go_simp; with_reducible rfl
          (try simp only [Act.put, List.setIfInBounds_toArray, List.set_cons_zero, List.set_cons_succ])
          refine wpAny_take (i := 2) (oi := ⟨some 34, _, _, _, _, _⟩) (v := ?_) rfl (by kernel_rfl) (by kernel_rfl) (by kernel_rfl) (fun _ _ _ h => h) (Or.inl ⟨by rfl, ?_⟩) ?_
          rotate_left
          · intro W; go_simp; with_reducible rfl
          (try simp only [Act.put, List.setIfInBounds_toArray, List.set_cons_zero, List.set_cons_succ])
          refine wpAny_take (i := 3) (oi := ⟨some 35, _, _, _, _, _⟩) (v := ?_) rfl (by kernel_rfl) (by kernel_rfl) (by kernel_rfl) (fun _ _ _ h => h) (Or.inl ⟨by rfl, ?_⟩) ?_
          rotate_left
          · intro W; go_simp; with_reducible rfl
          (try simp only [Act.put, List.setIfInBounds_toArray, List.set_cons_zero, List.set_cons_succ])
          refine wpAny_ready (rs := [0, 4]) (by kernel_rfl) (by simp) ?_
          refine AllReady.cons (o := ⟨some 32, _, _, _, _, _⟩) rfl (fun K hK => ?_) (AllReady.cons (o := ⟨some 36, _, _, _, _, _⟩) rfl (fun K hK => ?_) (AllReady.nil))
          · go_simp
            refine hK _ _ ?_
            clear hK K
            (try simp only [Act.put, List.setIfInBounds_toArray, List.set_cons_zero, List.set_cons_succ])
            refine wpAny_ready (rs := [4]) (by kernel_rfl) (by simp) ?_
            refine AllReady.cons (o := ⟨some 36, _, _, _, _, _⟩) rfl (fun K hK => ?_) (AllReady.nil)
            go_simp
            refine hK _ _ ?_
            clear hK K
            (try simp only [Act.put, List.setIfInBounds_toArray, List.set_cons_zero, List.set_cons_succ])
            refine wpAny_ready (rs := [5]) (by kernel_rfl) (by simp) ?_
            refine AllReady.cons (o := ⟨some 37, _, _, _, _, _⟩) rfl (fun K hK => ?_) (AllReady.nil)
            go_simp
            refine (HMY.out _).mono ?_
            rintro e w4 ⟨rfl, hb⟩
            have HB4 := Lib.hid (HB3.out.drew.trans (hb.mono HB3.out.drew.size))
            have q0 := (hb.cell (p := ⟨w.heap.size + 1, 0, none⟩) hsz3).trans q0
            have q1 := (hb.cell (p := ⟨w.heap.size + 1, 1, none⟩) hsz3).trans q1
            have q2 := (hb.cell (p := ⟨w.heap.size + 1, 2, none⟩) hsz3).trans q2
            have q3 := (hb.cell (p := ⟨w.heap.size + 1, 3, none⟩) hsz3).trans q3
            have HO4 := Lib.hid (Row.below HO3.out.drew hb)
            clear hb c0 c1 c2 c3
            refine hK _ _ ?_
            clear hK K
            (try simp only [Act.put, List.setIfInBounds_toArray, List.set_cons_zero, List.set_cons_succ])
            refine wpAny_take (i := 6) (oi := ⟨some 38, _, _, _, _, _⟩) (v := ?_) rfl (by kernel_rfl) (by kernel_rfl) (by kernel_rfl) (fun _ _ _ h => h) (Or.inl ⟨by rfl, ?_⟩) ?_
            rotate_left
            · intro W; go_simp; with_reducible rfl
            (try simp only [Act.put, List.setIfInBounds_toArray, List.set_cons_zero, List.set_cons_succ])
            refine wpAny_done (by kernel_rfl) ?_ _
            go_wp2_with fail
            go_meet
            exact ⟨rfl, HB4.out, HO4.out, q0, q1, q2, q3⟩
          · go_simp
            refine hK _ _ ?_
            clear hK K
            (try simp only [Act.put, List.setIfInBounds_toArray, List.set_cons_zero, List.set_cons_succ])
            refine wpAny_ready (rs := [0]) (by kernel_rfl) (by simp) ?_
            refine AllReady.cons (o := ⟨some 32, _, _, _, _, _⟩) rfl (fun K hK => ?_) (AllReady.nil)
            go_simp
            refine hK _ _ ?_
            clear hK K
            (try simp only [Act.put, List.setIfInBounds_toArray, List.set_cons_zero, List.set_cons_succ])
            refine wpAny_ready (rs := [5]) (by kernel_rfl) (by simp) ?_
            refine AllReady.cons (o := ⟨some 37, _, _, _, _, _⟩) rfl (fun K hK => ?_) (AllReady.nil)
            go_simp
            refine (HMY.out _).mono ?_
            rintro e w4 ⟨rfl, hb⟩
            have HB4 := Lib.hid (HB3.out.drew.trans (hb.mono HB3.out.drew.size))
            have q0 := (hb.cell (p := ⟨w.heap.size + 1, 0, none⟩) hsz3).trans q0
            have q1 := (hb.cell (p := ⟨w.heap.size + 1, 1, none⟩) hsz3).trans q1
            have q2 := (hb.cell (p := ⟨w.heap.size + 1, 2, none⟩) hsz3).trans q2
            have q3 := (hb.cell (p := ⟨w.heap.size + 1, 3, none⟩) hsz3).trans q3
            have HO4 := Lib.hid (Row.below HO3.out.drew hb)
            clear hb c0 c1 c2 c3
            refine hK _ _ ?_
            clear hK K
            (try simp only [Act.put, List.setIfInBounds_toArray, List.set_cons_zero, List.set_cons_succ])
            refine wpAny_take (i := 6) (oi := ⟨some 38, _, _, _, _, _⟩) (v := ?_) rfl (by kernel_rfl) (by kernel_rfl) (by kernel_rfl) (fun _ _ _ h => h) (Or.inl ⟨by rfl, ?_⟩) ?_
            rotate_left
            · intro W; go_simp; with_reducible rfl
            (try simp only [Act.put, List.setIfInBounds_toArray, List.set_cons_zero, List.set_cons_succ])
            refine wpAny_done (by kernel_rfl) ?_ _
            go_wp2_with fail
            go_meet
            exact ⟨rfl, HB4.out, HO4.out, q0, q1, q2, q3⟩
        case rest =>
          obtain ⟨rfl, hbc, ho4, q0, q1, q2, q3⟩ := hcut
          have HB4 := Lib.hid hbc
          have HO4 := Lib.hid ho4
          clear hbc ho4
          cases mo
          · have HRR : Hid ((xs, false, 0) = r) := Lib.hid (by simpa using HR.out)
            go_wp2
            go_ret3
            rw [← HRR.out]
            exact ⟨⟨_, rfl, Stats.of_row HO4.out, fun m c h => by cases h⟩, HB4.out⟩
          · have HRR : Hid ((xs.set k x, true, 0) = r) := Lib.hid (by simpa using HR.out)
            obtain ⟨c0, c1, c2, c3⟩ := row_cell HO4.out rfl k hlt
            have f0 := row_frozen HO4.out (k * 4)
            have f1 := row_frozen HO4.out (k * 4 + 1)
            have f2 := row_frozen HO4.out (k * 4 + 2)
            have f3 := row_frozen HO4.out (k * 4 + 3)
            go_wp2
            go_ret3
            rw [← HRR.out]
            exact ⟨⟨_, rfl, stats_set HO4.out hsz hlt x, fun m c h => by cases h⟩, (((HB4.out.setCell (by show w.heap.size ≤ g; have := HB.out.size; omega) _).setCell (by show w.heap.size ≤ g; have := HB.out.size; omega) _).setCell (by show w.heap.size ≤ g; have := HB.out.size; omega) _).setCell (by show w.heap.size ≤ g; have := HB.out.size; omega) _⟩
      · rw [hA] at HRL HR0
        rw [hB] at HCK HR0
        rw [dif_neg hC] at HR0
        have HR : Hid (r = ([], false, 4)) := Lib.hid HR0.out.symm
        clear HR0 hA hB
        unfold St.val shapeV at *
        by_cases hC0 : at_ < 0
        · clear hC
          go_enter Try.func10, Try.ntmps10
          go_wp2_with fail
          refine (HRL.out _ (HST.out.below ((below_new _).alloc (by simp) _) (Nat.le_refl _))).mono ?_
          rintro e w1 ⟨rfl, hb⟩
          have HB0 := Lib.hid (((below_new _).alloc (by simp) _).trans (hb.mono (by simp; omega)))
          have q0 := (hb.cell (p := ⟨w.heap.size + 1, 0, none⟩) (by simp)).trans (show _ = some (.int .i64 x.over) by simp)
          have q1 := (hb.cell (p := ⟨w.heap.size + 1, 1, none⟩) (by simp)).trans (show _ = some (.bool x.pend) by simp)
          have q2 := (hb.cell (p := ⟨w.heap.size + 1, 2, none⟩) (by simp)).trans (show _ = some (.int .i64 x.mode) by simp)
          have q3 := (hb.cell (p := ⟨w.heap.size + 1, 3, none⟩) (by simp)).trans (show _ = some (.int .i64 x.prio) by simp)
          have hsz1 : w.heap.size + 1 < w1.heap.size := by have := hb.size; simp at this; omega
          clear hb
          go_wp2_with fail
          refine (HCK.out _).mono ?_
          rintro e w2 ⟨rfl, hb⟩
          have HB := Lib.hid (HB0.out.trans (hb.mono HB0.out.size))
          clear hb
          go_wp2
          go_ret3
          rw [HR.out]
          exact ⟨⟨_, rfl, stats_nil _, fun m c h => by cases h; rfl⟩, HB.out⟩
        · have hC2 : ¬ at_ < (xs.length : Int) := by omega
          clear hC
          go_enter Try.func10, Try.ntmps10
          go_wp2_with fail
          refine (HRL.out _ (HST.out.below ((below_new _).alloc (by simp) _) (Nat.le_refl _))).mono ?_
          rintro e w1 ⟨rfl, hb⟩
          have HB0 := Lib.hid (((below_new _).alloc (by simp) _).trans (hb.mono (by simp; omega)))
          have q0 := (hb.cell (p := ⟨w.heap.size + 1, 0, none⟩) (by simp)).trans (show _ = some (.int .i64 x.over) by simp)
          have q1 := (hb.cell (p := ⟨w.heap.size + 1, 1, none⟩) (by simp)).trans (show _ = some (.bool x.pend) by simp)
          have q2 := (hb.cell (p := ⟨w.heap.size + 1, 2, none⟩) (by simp)).trans (show _ = some (.int .i64 x.mode) by simp)
          have q3 := (hb.cell (p := ⟨w.heap.size + 1, 3, none⟩) (by simp)).trans (show _ = some (.int .i64 x.prio) by simp)
          have hsz1 : w.heap.size + 1 < w1.heap.size := by have := hb.size; simp at this; omega
          clear hb
          go_wp2_with fail
          refine (HCK.out _).mono ?_
          rintro e w2 ⟨rfl, hb⟩
          have HB := Lib.hid (HB0.out.trans (hb.mono HB0.out.size))
          clear hb
          go_wp2
          go_ret3
          rw [HR.out]
          exact ⟨⟨_, rfl, stats_nil _, fun m c h => by cases h; rfl⟩, HB.out⟩
    · have hB' := Bool.eq_false_iff.2 hB
      rw [hA] at HRL HR0
      rw [hB'] at HCK HR0
      have HR : Hid (r = ([], false, 2)) := Lib.hid HR0.out.symm
      clear HR0 hA hB hB'
      unfold St.val shapeV at *
      go_enter Try.func10, Try.ntmps10
      go_wp2_with fail
      refine (HRL.out _ (HST.out.below ((below_new _).alloc (by simp) _) (Nat.le_refl _))).mono ?_
      rintro e w1 ⟨rfl, hb⟩
      have HB0 := Lib.hid (((below_new _).alloc (by simp) _).trans (hb.mono (by simp; omega)))
      have q0 := (hb.cell (p := ⟨w.heap.size + 1, 0, none⟩) (by simp)).trans (show _ = some (.int .i64 x.over) by simp)
      have q1 := (hb.cell (p := ⟨w.heap.size + 1, 1, none⟩) (by simp)).trans (show _ = some (.bool x.pend) by simp)
      have q2 := (hb.cell (p := ⟨w.heap.size + 1, 2, none⟩) (by simp)).trans (show _ = some (.int .i64 x.mode) by simp)
      have q3 := (hb.cell (p := ⟨w.heap.size + 1, 3, none⟩) (by simp)).trans (show _ = some (.int .i64 x.prio) by simp)
      have hsz1 : w.heap.size + 1 < w1.heap.size := by have := hb.size; simp at this; omega
      clear hb
      go_wp2_with fail
      refine (HCK.out _).mono ?_
      rintro e w2 ⟨rfl, hb⟩
      have HB := Lib.hid (HB0.out.trans (hb.mono HB0.out.size))
      clear hb
      go_wp2
      go_ret3
      rw [HR.out]
      exact ⟨⟨_, rfl, stats_nil _, fun m c h => by cases h; rfl⟩, HB.out⟩
  · have hA' := Bool.eq_false_iff.2 hA
    rw [hA'] at HRL HR0
    have HR : Hid (r = ([], false, 2)) := Lib.hid HR0.out.symm
    clear HR0 hA hA'
    unfold St.val shapeV at *
    go_enter Try.func10, Try.ntmps10
    go_wp2_with fail
    refine (HRL.out _ (HST.out.below ((below_new _).alloc (by simp) _) (Nat.le_refl _))).mono ?_
    rintro e w1 ⟨rfl, hb⟩
    have HB0 := Lib.hid (((below_new _).alloc (by simp) _).trans (hb.mono (by simp; omega)))
    have q0 := (hb.cell (p := ⟨w.heap.size + 1, 0, none⟩) (by simp)).trans (show _ = some (.int .i64 x.over) by simp)
    have q1 := (hb.cell (p := ⟨w.heap.size + 1, 1, none⟩) (by simp)).trans (show _ = some (.bool x.pend) by simp)
    have q2 := (hb.cell (p := ⟨w.heap.size + 1, 2, none⟩) (by simp)).trans (show _ = some (.int .i64 x.mode) by simp)
    have q3 := (hb.cell (p := ⟨w.heap.size + 1, 3, none⟩) (by simp)).trans (show _ = some (.int .i64 x.prio) by simp)
    have hsz1 : w.heap.size + 1 < w1.heap.size := by have := hb.size; simp at this; omega
    clear hb
    have HB := HB0
    go_wp2
    go_ret3
    rw [HR.out]
    exact ⟨⟨_, rfl, stats_nil _, fun m c h => by cases h; rfl⟩, HB.out⟩
end Go.Proofs.Ythlkahpglabnbaa
