/-
  PROVED: The contract of stat.Learn. CONDITIONS: at most 1000 statuses, which lie in the world; the site is an int.
-/
import Derived.Test.YthlkahpglabnbaaH
namespace Go.Proofs.Ythlkahpglabnbaa
open Go.RowKit
set_option maxRecDepth 100000
set_option maxHeartbeats 2000000
/-- What is known behind a status that is learned; whether it says more; an error's number. -/
def learn (n l s : Int) (xs : List St) (at_ : Int) (x : St) : List St × Bool × Int :=
  if listOk n l s xs && x.ok then
    if h : 0 ≤ at_ ∧ at_.toNat < xs.length then
      if x.more xs[at_.toNat] then (xs.set at_.toNat x, true, 0) else (xs, false, 0)
    else ([], false, 4)
  else ([], false, 2)
def LearnPost (r : List St × Bool × Int) (w : World) (e : Ending) (w' : World) : Prop :=
  (∃ v, e = .returned (.tuple #[v, .bool r.2.1, .int .i64 r.2.2]) ∧ Stats w' v r.1 ∧ ∀ m c, v = .slice none m c → c = 0) ∧ Below w.heap.size w w'
def AtBad (w : World) (r : List St × Bool × Int) (no : Int) (f : Act) (w' : World) : Prop :=
  (∃ (u0 u1 u2 u3 u4 u5 u6 u7 u8 u9 u11 u12 u13 u14 u15 u16 u17 u18 u19 u20 u21 u22 u23 u24 u25 u26 u27 u28 u29 u30 u31 u32 u33 u34 u35 u36 u37 u38 u39 u40 u41 u42 u43 u44 u45 u46 u47 : Value), f = { tmps := #[u0, u1, u2, u3, u4, u5, u6, u7, u8, u9, .int .i64 no, u11, u12, u13, u14, u15, u16, u17, u18, u19, u20, u21, u22, u23, u24, u25, u26, u27, u28, u29, u30, u31, u32, u33, u34, u35, u36, u37, u38, u39, u40, u41, u42, u43, u44, u45, u46, u47], defers := [] }) ∧ Below w.heap.size w w' ∧ r = ([], false, no)
theorem row_frozen {w : World} {B g cp n : Nat} {xs : List Value} (h : w.ownsRow B 27 4 (.slice (some ⟨g, 0, none⟩) n cp) n xs) (o : Nat) : w.frozen? ⟨g, o, none⟩ = false := by
  obtain ⟨h1, ⟨h2, h3⟩ | ⟨g', cap, cur, ha, h4, h5, h6, h7, h8, h9⟩⟩ := h
  · cases h2
  · cases ha
    simp [World.frozen?, h5]
theorem stats_set {w : World} {B g cp k : Nat} {xs : List St} (h : w.ownsRow B 27 4 (.slice (some ⟨g, 0, none⟩) xs.length cp) xs.length (flat xs)) (hl : xs.length ≤ 1000) (hk : k < xs.length) (x : St) :
    Stats ((((w.setCell ⟨g, k * 4, none⟩ (.int .i64 x.over)).setCell ⟨g, k * 4 + 1, none⟩ (.bool x.pend)).setCell ⟨g, k * 4 + 2, none⟩ (.int .i64 x.mode)).setCell ⟨g, k * 4 + 3, none⟩ (.int .i64 x.prio)) (.slice (some ⟨g, 0, none⟩) xs.length cp) (xs.set k x) := by
  have key : ∀ (W : World) (o o' : Nat) (v : Value), o ≠ o' → (W.setCell ⟨g, o, none⟩ v).cell? ⟨g, o', none⟩ = W.cell? ⟨g, o', none⟩ := fun W o o' v e => World.cell?_setCell_other _ _ _ _ (by simp [e])
  refine ⟨_, cp, by rw [List.length_set], by rw [List.length_set]; omega, fun _ => ⟨g, 0, rfl, fun i hi => ?_⟩⟩
  rw [List.length_set] at hi
  rw [Nat.zero_add]
  obtain ⟨c0, c1, c2, c3⟩ := row_cell h rfl i hi
  by_cases e : i = k
  · subst e
    rw [List.getElem_set_self]
    refine ⟨?_, ?_, ?_, ?_⟩
    · rw [key _ _ _ _ (by omega), key _ _ _ _ (by omega), key _ _ _ _ (by omega)]
      exact World.cell?_setCell_same _ _ _ c0
    · rw [key _ _ _ _ (by omega), key _ _ _ _ (by omega)]
      exact World.cell?_setCell_same _ _ _ ((key _ _ _ _ (by omega)).trans c1)
    · rw [key _ _ _ _ (by omega)]
      exact World.cell?_setCell_same _ _ _ (((key _ _ _ _ (by omega)).trans (key _ _ _ _ (by omega))).trans c2)
    · exact World.cell?_setCell_same _ _ _ ((((key _ _ _ _ (by omega)).trans (key _ _ _ _ (by omega))).trans (key _ _ _ _ (by omega))).trans c3)
  · rw [List.getElem_set_ne (fun h => e h.symm)]
    refine ⟨?_, ?_, ?_, ?_⟩
    · rw [key _ _ _ _ (by omega), key _ _ _ _ (by omega), key _ _ _ _ (by omega), key _ _ _ _ (by omega)]; exact c0
    · rw [key _ _ _ _ (by omega), key _ _ _ _ (by omega), key _ _ _ _ (by omega), key _ _ _ _ (by omega)]; exact c1
    · rw [key _ _ _ _ (by omega), key _ _ _ _ (by omega), key _ _ _ _ (by omega), key _ _ _ _ (by omega)]; exact c2
    · rw [key _ _ _ _ (by omega), key _ _ _ _ (by omega), key _ _ _ _ (by omega), key _ _ _ _ (by omega)]; exact c3
theorem stats_nil (w : World) : Stats w (.slice none 0 0) [] := ⟨none, 0, rfl, by simp, fun h => absurd h (by simp)⟩
theorem learn_any (n l s : Int) (v : Value) (xs : List St) (at_ : Int) (x : St) (w : World) (h : Stats w v xs) (hn : ∀ m c, v = .slice none m c → c = 0) (hsz : xs.length ≤ 1000) (ha0 : -9223372036854775808 ≤ at_) (ha1 : at_ ≤ 9223372036854775807) :
    Calls Try.prog 9 #[shapeV n l s, v, .int .i64 at_, x.val] w (LearnPost (learn n l s xs at_ x) w) := by
  have HST := Lib.hid h
  have HN := Lib.hid hn
  have HRL := Lib.hid (fun w h => rightL_any n l s v xs w h)
  have HCK := Lib.hid (checkSt_any x)
  have HMO := Lib.hid (fun y => moreU_any x y)
  obtain ⟨ao, cp, rfl, hl, -⟩ := h
  generalize hr : learn n l s xs at_ x = r
  have HR0 := Lib.hid hr
  clear hr hn
  unfold learn at HR0
  unfold St.no at HCK
  by_cases hA : listOk n l s xs = true
  · by_cases hB : x.ok = true
    · by_cases hC : 0 ≤ at_ ∧ at_.toNat < xs.length
      · rw [hA] at HRL HR0
        rw [hB] at HCK HR0
        rw [dif_pos hC] at HR0
        obtain ⟨hC0, hC1⟩ := hC
        obtain ⟨k, hk⟩ := Int.eq_ofNat_of_zero_le hC0
        subst hk
        have hlt : k < xs.length := by simpa using hC1
        have HR : Hid ((if x.more xs[k] then (xs.set k x, true, 0) else (xs, false, 0)) = r) := Lib.hid (by simpa using HR0.out)
        have HMY := Lib.hid (HMO.out xs[k])
        have HXS : Hid (xs = xs) := Lib.hid rfl
        clear HR0 hA hB hC0 hC1
        obtain ⟨o, p, m, q⟩ := x
        simp only [St.val, shapeV] at *
        go_enter Try.func9, Try.ntmps9
        go_wp2
        refine wp_scope_jumps 0 (fun _ _ => False) (fun _ _ => 0) rfl ?_ (fun _ _ h => h.elim)
        go_wp2_with fail
        refine (HRL.out _ (HST.out.below ((below_new _).alloc (by simp) _) (Nat.le_refl _))).mono ?_
        rintro e w1 ⟨rfl, hb⟩
        have HB0 := Lib.hid (((below_new _).alloc (by simp) _).trans (hb.mono (by simp; omega)))
        have q0 := (hb.cell (p := ⟨w.heap.size + 1, 0, none⟩) (by simp)).trans (show _ = some (.int .i64 o) by simp)
        have q1 := (hb.cell (p := ⟨w.heap.size + 1, 1, none⟩) (by simp)).trans (show _ = some (.bool p) by simp)
        have q2 := (hb.cell (p := ⟨w.heap.size + 1, 2, none⟩) (by simp)).trans (show _ = some (.int .i64 m) by simp)
        have q3 := (hb.cell (p := ⟨w.heap.size + 1, 3, none⟩) (by simp)).trans (show _ = some (.int .i64 q) by simp)
        have hsz1 : w.heap.size + 1 < w1.heap.size := by have := hb.size; simp at this; omega
        clear hb
        go_wp2_with fail
        refine (HCK.out _).mono ?_
        rintro e w2 ⟨rfl, hb⟩
        have HB := Lib.hid (HB0.out.trans (hb.mono HB0.out.size))
        have q0 := (hb.cell (p := ⟨w.heap.size + 1, 0, none⟩) hsz1).trans q0
        have q1 := (hb.cell (p := ⟨w.heap.size + 1, 1, none⟩) hsz1).trans q1
        have q2 := (hb.cell (p := ⟨w.heap.size + 1, 2, none⟩) hsz1).trans q2
        have q3 := (hb.cell (p := ⟨w.heap.size + 1, 3, none⟩) hsz1).trans q3
        have hsz2 := Nat.lt_of_lt_of_le hsz1 hb.size
        clear hb hsz1
        go_wp2_with fail
        refine (clone_any _ xs _ (HST.out.below HB.out (Nat.le_refl _)) HN.out hsz).mono ?_
        rintro e w3 ⟨⟨v3, rfl, ho3⟩, hb⟩
        have HB3 := Lib.hid (HB.out.trans (hb.mono HB.out.size))
        have q0 := (hb.cell (p := ⟨w.heap.size + 1, 0, none⟩) hsz2).trans q0
        have q1 := (hb.cell (p := ⟨w.heap.size + 1, 1, none⟩) hsz2).trans q1
        have q2 := (hb.cell (p := ⟨w.heap.size + 1, 2, none⟩) hsz2).trans q2
        have q3 := (hb.cell (p := ⟨w.heap.size + 1, 3, none⟩) hsz2).trans q3
        have hsz3 := Nat.lt_of_lt_of_le hsz2 hb.size
        obtain ⟨g, cp3, rfl, hg, hgc, hgm⟩ := row_addr ho3 (by omega)
        unfold maxLen at hgm
        have hsg : w2.heap.size ≤ g := hg
        obtain ⟨c0, c1, c2, c3⟩ := row_cell ho3 rfl k hlt
        have HO3 := Lib.hid ho3
        clear hb ho3 hg
        generalize hy : xs[k] = y at c0 c1 c2 c3 HMY HR
        have HY := Lib.hid hy
        clear hy
        go_wp2_with fail
        refine (HMY.out _).mono ?_
        rintro e w4 ⟨rfl, hb⟩
        have HB4 := Lib.hid (HB3.out.trans (hb.mono HB3.out.size))
        have q0 := (hb.cell (p := ⟨w.heap.size + 1, 0, none⟩) hsz3).trans q0
        have q1 := (hb.cell (p := ⟨w.heap.size + 1, 1, none⟩) hsz3).trans q1
        have q2 := (hb.cell (p := ⟨w.heap.size + 1, 2, none⟩) hsz3).trans q2
        have q3 := (hb.cell (p := ⟨w.heap.size + 1, 3, none⟩) hsz3).trans q3
        have HO4 := Lib.hid (Row.below HO3.out hb)
        clear hb c0 c1 c2 c3
        cases hmo : St.more ⟨o, p, m, q⟩ y
        · have HRR : Hid ((xs, false, 0) = r) := Lib.hid (by have := HR.out; rw [hmo] at this; simpa using this)
          clear hmo
          go_wp2
          simp only [Exit.jump]
          go_ret3
          rw [← HRR.out]
          exact ⟨⟨_, rfl, Stats.of_row HO4.out, fun m c h => by cases h⟩, HB4.out⟩
        · have HRR : Hid ((xs.set k ⟨o, p, m, q⟩, true, 0) = r) := Lib.hid (by have := HR.out; rw [hmo] at this; simpa using this)
          clear hmo
          obtain ⟨c0, c1, c2, c3⟩ := row_cell HO4.out rfl k hlt
          have f0 := row_frozen HO4.out (k * 4)
          have f1 := row_frozen HO4.out (k * 4 + 1)
          have f2 := row_frozen HO4.out (k * 4 + 2)
          have f3 := row_frozen HO4.out (k * 4 + 3)
          go_wp2
          simp only [Exit.jump]
          go_ret3
          rw [← HRR.out]
          exact ⟨⟨_, rfl, stats_set HO4.out hsz hlt ⟨o, p, m, q⟩, fun m c h => by cases h⟩, (((HB4.out.setCell (by show w.heap.size ≤ g; have := HB.out.size; omega) _).setCell (by show w.heap.size ≤ g; have := HB.out.size; omega) _).setCell (by show w.heap.size ≤ g; have := HB.out.size; omega) _).setCell (by show w.heap.size ≤ g; have := HB.out.size; omega) _⟩
      · rw [hA] at HRL HR0
        rw [hB] at HCK HR0
        rw [dif_neg hC] at HR0
        have HR : Hid (r = ([], false, 4)) := Lib.hid HR0.out.symm
        clear HR0 hA hB
        unfold St.val shapeV at *
        by_cases hC0 : at_ < 0
        · clear hC
          go_enter Try.func9, Try.ntmps9
          go_wp2
          refine wp_scope_jumps 0 (AtBad w r 4) (fun _ _ => 0) rfl ?_ ?_
          · go_wp2_with fail
            refine (HRL.out _ (HST.out.below ((below_new _).alloc (by simp) _) (Nat.le_refl _))).mono ?_
            rintro e w1 ⟨rfl, hb⟩
            have HB0 := Lib.hid (((below_new _).alloc (by simp) _).trans (hb.mono (by simp; omega)))
            have q0 := (hb.cell (p := ⟨w.heap.size + 1, 0, none⟩) (by simp)).trans (show _ = some (.int .i64 x.over) by simp)
            have q1 := (hb.cell (p := ⟨w.heap.size + 1, 1, none⟩) (by simp)).trans (show _ = some (.bool x.pend) by simp)
            have q2 := (hb.cell (p := ⟨w.heap.size + 1, 2, none⟩) (by simp)).trans (show _ = some (.int .i64 x.mode) by simp)
            have q3 := (hb.cell (p := ⟨w.heap.size + 1, 3, none⟩) (by simp)).trans (show _ = some (.int .i64 x.prio) by simp)
            clear hb
            go_wp2_with fail
            refine (HCK.out _).mono ?_
            rintro e w2 ⟨rfl, hb⟩
            have HB := Lib.hid (HB0.out.trans (hb.mono HB0.out.size))
            clear hb
            go_wp2_with fail
            go_step3
            go_light
            simp only [Exit.then, Exit.inBlock, Exit.jump, true_and]
            exact ⟨⟨_, _, _, _, _, _, _, _, _, _, _, _, _, _, _, _, _, _, _, _, _, _, _, _, _, _, _, _, _, _, _, _, _, _, _, _, _, _, _, _, _, _, _, _, _, _, _, rfl⟩, HB.out, HR.out⟩
          · rintro f w' ⟨⟨u0, u1, u2, u3, u4, u5, u6, u7, u8, u9, u11, u12, u13, u14, u15, u16, u17, u18, u19, u20, u21, u22, u23, u24, u25, u26, u27, u28, u29, u30, u31, u32, u33, u34, u35, u36, u37, u38, u39, u40, u41, u42, u43, u44, u45, u46, u47, rfl⟩, hb, hr⟩
            have HB := Lib.hid hb
            have HR' := Lib.hid hr
            clear hb hr
            go_wp2
            simp only [Exit.jump]
            refine bodyPost_ret (v := .tuple #[.slice none 0 0, .bool false, .int .i64 4]) (by simp [results, Try.results9, go_sem]) rfl ?_
            rw [HR'.out]
            exact ⟨⟨_, rfl, stats_nil _, fun m c h => by cases h; rfl⟩, HB.out⟩
        · have hC2 : ¬ at_ < (xs.length : Int) := by omega
          clear hC
          go_enter Try.func9, Try.ntmps9
          go_wp2
          refine wp_scope_jumps 0 (AtBad w r 4) (fun _ _ => 0) rfl ?_ ?_
          · go_wp2_with fail
            refine (HRL.out _ (HST.out.below ((below_new _).alloc (by simp) _) (Nat.le_refl _))).mono ?_
            rintro e w1 ⟨rfl, hb⟩
            have HB0 := Lib.hid (((below_new _).alloc (by simp) _).trans (hb.mono (by simp; omega)))
            have q0 := (hb.cell (p := ⟨w.heap.size + 1, 0, none⟩) (by simp)).trans (show _ = some (.int .i64 x.over) by simp)
            have q1 := (hb.cell (p := ⟨w.heap.size + 1, 1, none⟩) (by simp)).trans (show _ = some (.bool x.pend) by simp)
            have q2 := (hb.cell (p := ⟨w.heap.size + 1, 2, none⟩) (by simp)).trans (show _ = some (.int .i64 x.mode) by simp)
            have q3 := (hb.cell (p := ⟨w.heap.size + 1, 3, none⟩) (by simp)).trans (show _ = some (.int .i64 x.prio) by simp)
            clear hb
            go_wp2_with fail
            refine (HCK.out _).mono ?_
            rintro e w2 ⟨rfl, hb⟩
            have HB := Lib.hid (HB0.out.trans (hb.mono HB0.out.size))
            clear hb
            go_wp2_with fail
            go_step3
            go_light
            simp only [Exit.then, Exit.inBlock, Exit.jump, true_and]
            exact ⟨⟨_, _, _, _, _, _, _, _, _, _, _, _, _, _, _, _, _, _, _, _, _, _, _, _, _, _, _, _, _, _, _, _, _, _, _, _, _, _, _, _, _, _, _, _, _, _, _, rfl⟩, HB.out, HR.out⟩
          · rintro f w' ⟨⟨u0, u1, u2, u3, u4, u5, u6, u7, u8, u9, u11, u12, u13, u14, u15, u16, u17, u18, u19, u20, u21, u22, u23, u24, u25, u26, u27, u28, u29, u30, u31, u32, u33, u34, u35, u36, u37, u38, u39, u40, u41, u42, u43, u44, u45, u46, u47, rfl⟩, hb, hr⟩
            have HB := Lib.hid hb
            have HR' := Lib.hid hr
            clear hb hr
            go_wp2
            simp only [Exit.jump]
            refine bodyPost_ret (v := .tuple #[.slice none 0 0, .bool false, .int .i64 4]) (by simp [results, Try.results9, go_sem]) rfl ?_
            rw [HR'.out]
            exact ⟨⟨_, rfl, stats_nil _, fun m c h => by cases h; rfl⟩, HB.out⟩
    · have hB' := Bool.eq_false_iff.2 hB
      rw [hA] at HRL HR0
      rw [hB'] at HCK HR0
      have HR : Hid (r = ([], false, 2)) := Lib.hid HR0.out.symm
      clear HR0 hA hB hB'
      unfold St.val shapeV at *
      go_enter Try.func9, Try.ntmps9
      go_wp2
      refine wp_scope_jumps 0 (AtBad w r 2) (fun _ _ => 0) rfl ?_ ?_
      · go_wp2_with fail
        refine (HRL.out _ (HST.out.below ((below_new _).alloc (by simp) _) (Nat.le_refl _))).mono ?_
        rintro e w1 ⟨rfl, hb⟩
        have HB0 := Lib.hid (((below_new _).alloc (by simp) _).trans (hb.mono (by simp; omega)))
        have q0 := (hb.cell (p := ⟨w.heap.size + 1, 0, none⟩) (by simp)).trans (show _ = some (.int .i64 x.over) by simp)
        have q1 := (hb.cell (p := ⟨w.heap.size + 1, 1, none⟩) (by simp)).trans (show _ = some (.bool x.pend) by simp)
        have q2 := (hb.cell (p := ⟨w.heap.size + 1, 2, none⟩) (by simp)).trans (show _ = some (.int .i64 x.mode) by simp)
        have q3 := (hb.cell (p := ⟨w.heap.size + 1, 3, none⟩) (by simp)).trans (show _ = some (.int .i64 x.prio) by simp)
        clear hb
        go_wp2_with fail
        refine (HCK.out _).mono ?_
        rintro e w2 ⟨rfl, hb⟩
        have HB := Lib.hid (HB0.out.trans (hb.mono HB0.out.size))
        clear hb
        go_wp2_with fail
        go_step3
        go_light
        simp only [Exit.then, Exit.inBlock, Exit.jump, true_and]
        exact ⟨⟨_, _, _, _, _, _, _, _, _, _, _, _, _, _, _, _, _, _, _, _, _, _, _, _, _, _, _, _, _, _, _, _, _, _, _, _, _, _, _, _, _, _, _, _, _, _, _, rfl⟩, HB.out, HR.out⟩
      · rintro f w' ⟨⟨u0, u1, u2, u3, u4, u5, u6, u7, u8, u9, u11, u12, u13, u14, u15, u16, u17, u18, u19, u20, u21, u22, u23, u24, u25, u26, u27, u28, u29, u30, u31, u32, u33, u34, u35, u36, u37, u38, u39, u40, u41, u42, u43, u44, u45, u46, u47, rfl⟩, hb, hr⟩
        have HB := Lib.hid hb
        have HR' := Lib.hid hr
        clear hb hr
        go_wp2
        simp only [Exit.jump]
        refine bodyPost_ret (v := .tuple #[.slice none 0 0, .bool false, .int .i64 2]) (by simp [results, Try.results9, go_sem]) rfl ?_
        rw [HR'.out]
        exact ⟨⟨_, rfl, stats_nil _, fun m c h => by cases h; rfl⟩, HB.out⟩
  · have hA' := Bool.eq_false_iff.2 hA
    rw [hA'] at HRL HR0
    have HR : Hid (r = ([], false, 2)) := Lib.hid HR0.out.symm
    clear HR0 hA hA'
    unfold St.val shapeV at *
    go_enter Try.func9, Try.ntmps9
    go_wp2
    refine wp_scope_jumps 0 (AtBad w r 2) (fun _ _ => 0) rfl ?_ ?_
    · go_wp2_with fail
      refine (HRL.out _ (HST.out.below ((below_new _).alloc (by simp) _) (Nat.le_refl _))).mono ?_
      rintro e w1 ⟨rfl, hb⟩
      have HB0 := Lib.hid (((below_new _).alloc (by simp) _).trans (hb.mono (by simp; omega)))
      have q0 := (hb.cell (p := ⟨w.heap.size + 1, 0, none⟩) (by simp)).trans (show _ = some (.int .i64 x.over) by simp)
      have q1 := (hb.cell (p := ⟨w.heap.size + 1, 1, none⟩) (by simp)).trans (show _ = some (.bool x.pend) by simp)
      have q2 := (hb.cell (p := ⟨w.heap.size + 1, 2, none⟩) (by simp)).trans (show _ = some (.int .i64 x.mode) by simp)
      have q3 := (hb.cell (p := ⟨w.heap.size + 1, 3, none⟩) (by simp)).trans (show _ = some (.int .i64 x.prio) by simp)
      clear hb
      have HB := HB0
      go_wp2_with fail
      go_step3
      go_light
      simp only [Exit.then, Exit.inBlock, Exit.jump, true_and]
      exact ⟨⟨_, _, _, _, _, _, _, _, _, _, _, _, _, _, _, _, _, _, _, _, _, _, _, _, _, _, _, _, _, _, _, _, _, _, _, _, _, _, _, _, _, _, _, _, _, _, _, rfl⟩, HB.out, HR.out⟩
    · rintro f w' ⟨⟨u0, u1, u2, u3, u4, u5, u6, u7, u8, u9, u11, u12, u13, u14, u15, u16, u17, u18, u19, u20, u21, u22, u23, u24, u25, u26, u27, u28, u29, u30, u31, u32, u33, u34, u35, u36, u37, u38, u39, u40, u41, u42, u43, u44, u45, u46, u47, rfl⟩, hb, hr⟩
      have HB := Lib.hid hb
      have HR' := Lib.hid hr
      clear hb hr
      go_wp2
      simp only [Exit.jump]
      refine bodyPost_ret (v := .tuple #[.slice none 0 0, .bool false, .int .i64 2]) (by simp [results, Try.results9, go_sem]) rfl ?_
      rw [HR'.out]
      exact ⟨⟨_, rfl, stats_nil _, fun m c h => by cases h; rfl⟩, HB.out⟩
end Go.Proofs.Ythlkahpglabnbaa
