/-
  PROVED: The walk of the law OwnerRises. CONDITIONS: the list came in.
-/
import Derived.Test.YtoanpfbdhkgncaaO
namespace Go.Proofs.Ytoanpfbdhkgncaa
open Go.RowKit
attribute [local go_sem] Oper.semAt_some
set_option maxRecDepth 100000
set_option maxHeartbeats 2000000
/-- What is carried at last. -/
def endHop (pre : List Ow) (c : Int) : Int := (pre.getLast?.map (·.hop)).getD c
/-- A step that does not rise. -/
def Falls (n c : Int) (q : List Ow) : Prop := ∃ pre o, q = pre ++ [o] ∧ (n < (pre.length : Int) + 1 ∨ o.hop ≤ endHop pre c ∨ o.node < 0 ∨ n ≤ o.node)
theorem way_falls {n l s : Int} {xs : List Ow} {x : Sk} {q : List Ow} (h : q <+: wayR n l s xs x) : ¬ Falls n x.hop q := by
  rintro ⟨pre, o, rfl, hf⟩
  unfold wayR at h
  cases hok : askedOk n l s xs x with
  | false => rw [hok] at h; simp at h
  | true =>
    rw [hok] at h
    simp only [if_true] at h
    obtain ⟨hn, -, -, -, hall⟩ := asked_parts hok
    have hle := h.length_le
    have hwl := way_le xs x.origin x.origin x.hop
    simp only [List.length_append, List.length_cons, List.length_nil] at hle
    obtain ⟨me, c, hc⟩ := Came.of_prefix (rank xs x.hop) [] x.origin x.hop pre (Nat.le_refl _) .start ((List.prefix_append _ _).trans h)
    rw [List.nil_append] at hc
    have hw := hc.way
    rw [hw] at h
    have h2 : [o] <+: way xs x.origin me c := (List.prefix_append_right_inj _).1 h
    cases hg : goes xs x.origin me c with
    | none => rw [way_none hg] at h2; simp at h2
    | some o' =>
      rw [way_some hg] at h2
      obtain ⟨rfl, -⟩ := List.cons_prefix_cons.1 h2
      obtain ⟨hm, hr, -⟩ := goes_some hg
      obtain ⟨h3, h4, -⟩ := own_parts (hall _ hm)
      have he : c = endHop pre x.hop := hc.rise.2.1
      rcases hf with hf | hf | hf | hf <;> omega
theorem endHop_snoc (pre : List Ow) (o : Ow) (c : Int) : endHop (pre ++ [o]) c = o.hop := by simp [endHop]
theorem rises_law (n l s : Int) (a : Option Addr) (len cap : Nat) (xs : List Ow) (x : Sk) (w : World) (hin : OwnsIn w a len cap xs) : Calls Try.prog 6 #[shapeV n l s, .slice a len cap, x.val] w fun e w' => e = .returned (.bool true) ∧ Below w.heap.size w w' := by
  obtain ⟨rfl, hst, hn⟩ := hin
  have hn' : ∀ m c, Value.slice a xs.length cap = .slice none m c → c = 0 := fun m c h => by cases h; exact hn rfl
  have HO := Lib.hid hst
  have HW := Lib.hid works_any
  obtain ⟨ao, cp, e0, hl, -⟩ := hst
  cases e0
  have HWY := Lib.hid (fun w h hsz => way_any n l s (.slice a xs.length cap) xs x w h hn' hsz)
  have HF := Lib.hid (fun q (h : q <+: wayR n l s xs x) => way_falls h)
  have hwl : (wayR n l s xs x).length ≤ xs.length := by
    unfold wayR
    split
    · exact way_le _ _ _ _
    · simp
  generalize wayR n l s xs x = ys at *
  obtain ⟨has, ⟨k, h⟩, o, c⟩ := x
  simp only [Sk.val, shapeV] at *
  clear hn hn'
  by_cases hbig : (100 : Int) < (xs.length : Int)
  · go_enter Try.func6, Try.ntmps6
    go_wp2_with fail
    refine (HW.out _).mono ?_
    rintro e w1 ⟨rfl, hb⟩
    have BX : Hid (w1.heap[w.heap.size + 1 + 1]? = some (.cells #[.bool false] 4)) := heap_call hb (heap_new (by simp))
    have HBz := Lib.hid ((((below_new _).alloc (by simp) _).alloc (by simp; omega) _).trans (hb.mono (by simp; omega)))
    have c0 : w1.cell? ⟨w.heap.size + 1 + 1, 0, none⟩ = some (.bool false) := cell_of BX.out 0
    have f0 := free_of BX.out 0
    clear hb
    go_wp2
    have HR0 := heap_set (i := 0) (v := .bool true) BX.out
    have hcR := cell_of HR0 0
    refine bodyPost_ret (v := .bool true) (by simp [results, Try.results6, go_sem, c0]) rfl ⟨rfl, HBz.out.setCell (by show w.heap.size ≤ w.heap.size + 1 + 1; omega) _⟩
  · have hsm : xs.length ≤ 100 := by omega
    refine (callsIn_wide (n := 3)).1 ?_
    refine callsIn_of_wp_marks Try.func6 rfl trivial ?_ rfl
    simp only [Try.ntmps6, List.size_toArray, List.length_cons, List.length_nil, Nat.reduceAdd, Nat.reduceSub, Array.replicate_succ, Array.replicate_zero, List.push_toArray, List.append_toArray, List.nil_append, List.cons_append]
    gi_wp2_with fail
    refine ⟨trivial, ?_⟩
    refine (callsIn_wide.2 (HWY.out _ (HO.out.below (((below_new _).alloc (by simp) _).alloc (by simp; omega) _) (Nat.le_refl _)) (by omega))).mono ?_
    rintro e w2 ⟨⟨lb, rfl, hseq⟩, hb⟩
    have P := Lib.hid (heap_call hb (heap_old (heap_old (heap_new (W := w) rfl))))
    have Q : Hid (w2.heap[w.heap.size + 1]? = some (.cells #[.bool has, .int .i64 k, .int .i64 h, .int .i64 o, .int .i64 c] 27)) := heap_call hb (heap_old (heap_new (by simp)))
    have BX : Hid (w2.heap[w.heap.size + 1 + 1]? = some (.cells #[.bool false] 4)) := heap_call hb (heap_new (by simp))
    have HB2 := Lib.hid ((((below_new _).alloc (by simp) _).alloc (by simp; omega) _).trans (hb.mono (by simp; omega)))
    have hs2 := hb.size
    simp only [World.size_alloc] at hs2
    have HSQ := Lib.hid hseq
    have FN := func_nil lb
    have KA : Hid (∀ w' : World, Below w2.heap.size w2 w' → (fun w' => Below w2.heap.size w2 w' ∧ w'.cell? ⟨w.heap.size + 1, 4, none⟩ = some (.int .i64 c)) w') := fun w' hb => ⟨hb, keepC hb (cell_of Q.out 4)⟩
    clear hb hseq
    gi_wp2_with fail
    refine wpIn_mono (Q := fun e act w' => e = .normal ∧ ∃ A B : Nat, act = { tmps := #[.agg #[.int .i64 n, .int .i64 l, .int .i64 s], .slice a xs.length cap, .agg #[.bool has, .int .i64 k, .int .i64 h, .int .i64 o, .int .i64 c], .pointer (some ⟨w.heap.size, 0, none⟩), undef, .pointer (some ⟨w.heap.size + 1, 0, none⟩), .pointer (some ⟨w.heap.size + 1 + 1, 0, none⟩), .func (.func 32) #[] lb, .pointer (some ⟨A, 0, none⟩), .pointer (some ⟨B, 0, none⟩), undef, undef, .slice a xs.length cap, .int .i64 (xs.length : Int), .bool false, undef, .agg #[.int .i64 n, .int .i64 l, .int .i64 s], .slice a xs.length cap, .agg #[.bool has, .int .i64 k, .int .i64 h, .int .i64 o, .int .i64 c], .func (.func 32) #[] lb, .func (.func 32) #[] lb, .bool false, .pointer (some ⟨w.heap.size + 1, 4, none⟩), .int .i64 c, undef, undef, undef, undef, undef, undef, undef, undef, undef, undef, undef, undef, undef, undef, undef, undef, undef, undef, undef, undef, undef, undef, undef, undef, undef, undef], defers := [] } ∧ w'.heap[A]? = some (.cells #[.int .i64 0] 3) ∧ w'.heap[B]? = some (.cells #[.int .i64 c] 2) ∧ A ≠ B ∧ w2.heap.size ≤ A ∧ w2.heap.size ≤ B ∧ Below w2.heap.size w2 w') ?_ ?_
    · refine wpIn_wide.2 ?_
      refine wp_region_noPanic ?_
      refine wp_region_held_drew (S := fun w' => Below w2.heap.size w2 w' ∧ w'.cell? ⟨w.heap.size + 1, 4, none⟩ = some (.int .i64 c)) (by kernel_rfl) (KA.out _ (Below.refl _ _).drew) (fun hH => ?_)
      refine wpAnyH_take (i := 0) (oi := ⟨some 22, _, _, _, _, _⟩) (v := ?_) rfl (by kernel_rfl) (by kernel_rfl) (by kernel_rfl) (fun _ _ _ h => h) (Or.inl ⟨by rfl, ?_⟩) hH ?_
      rotate_left
      · intro W _; go_simp; with_reducible rfl
      (try simp only [Act.put, List.setIfInBounds_toArray, List.set_cons_zero, List.set_cons_succ])
      refine wpAnyH_take (i := 1) (oi := ⟨some 23, _, _, _, _, _⟩) (v := ?_) rfl (by kernel_rfl) (by kernel_rfl) (by kernel_rfl) (fun _ _ _ h => h) (Or.inl ⟨by rfl, ?_⟩) hH ?_
      rotate_left
      · intro W hSW; go_split_ands; go_simp; with_reducible rfl
      (try simp only [Act.put, List.setIfInBounds_toArray, List.set_cons_zero, List.set_cons_succ])
      refine wpAnyH_ready (rs := [2, 3]) (by kernel_rfl) (by simp) ?_
      refine AllReadyH.cons (o := ⟨some 8, _, _, _, _, _⟩) rfl (fun K hK => ?_) (AllReadyH.cons (o := ⟨some 9, _, _, _, _, _⟩) rfl (fun K hK => ?_) (AllReadyH.nil))
      · go_simp
        refine hK.out _ _ (KA.out _ (by first | exact (below_new _).drew | exact ((below_new _).alloc (by simp) _).drew)) (fun hH => ?_)
        clear hK K
        (try simp only [Act.put, List.setIfInBounds_toArray, List.set_cons_zero, List.set_cons_succ])
        refine wpAnyH_ready (rs := [3]) (by kernel_rfl) (by simp) ?_
        refine AllReadyH.cons (o := ⟨some 9, _, _, _, _, _⟩) rfl (fun K hK => ?_) (AllReadyH.nil)
        go_simp
        refine hK.out _ _ (KA.out _ (by first | exact (below_new _).drew | exact ((below_new _).alloc (by simp) _).drew)) (fun hH => ?_)
        clear hK K
        (try simp only [Act.put, List.setIfInBounds_toArray, List.set_cons_zero, List.set_cons_succ])
        refine wpAnyH_ready (rs := [4]) (by kernel_rfl) (by simp) ?_
        refine AllReadyH.cons (o := ⟨none, _, _, _, _, _⟩) rfl (fun K hK => ?_) (AllReadyH.nil)
        go_simp
        refine hK.out _ _ (KA.out _ (by first | exact (below_new _).drew | exact ((below_new _).alloc (by simp) _).drew)) (fun hH => ?_)
        clear hK K
        (try simp only [Act.put, List.setIfInBounds_toArray, List.set_cons_zero, List.set_cons_succ])
        refine wpAnyH_ready (rs := [5]) (by kernel_rfl) (by simp) ?_
        refine AllReadyH.cons (o := ⟨none, _, _, _, _, _⟩) rfl (fun K hK => ?_) (AllReadyH.nil)
        go_simp
        refine hK.out _ _ (KA.out _ (by first | exact (below_new _).drew | exact ((below_new _).alloc (by simp) _).drew)) (fun hH => ?_)
        clear hK K
        (try simp only [Act.put, List.setIfInBounds_toArray, List.set_cons_zero, List.set_cons_succ])
        refine wpAnyH_done (by kernel_rfl) ?_ _
        refine NoPanic.normal ?_
        first
          | exact ⟨rfl, w2.heap.size, w2.heap.size + 1, rfl, heap_old (heap_new rfl), heap_new (by simp), by omega, Nat.le_refl _, by omega, ((below_new _).alloc (by simp) _).drew⟩
          | exact ⟨rfl, w2.heap.size + 1, w2.heap.size, rfl, heap_new (by simp), heap_old (heap_new rfl), by omega, by omega, Nat.le_refl _, ((below_new _).alloc (by simp) _).drew⟩
      · go_simp
        refine hK.out _ _ (KA.out _ (by first | exact (below_new _).drew | exact ((below_new _).alloc (by simp) _).drew)) (fun hH => ?_)
        clear hK K
        (try simp only [Act.put, List.setIfInBounds_toArray, List.set_cons_zero, List.set_cons_succ])
        refine wpAnyH_ready (rs := [2]) (by kernel_rfl) (by simp) ?_
        refine AllReadyH.cons (o := ⟨some 8, _, _, _, _, _⟩) rfl (fun K hK => ?_) (AllReadyH.nil)
        go_simp
        refine hK.out _ _ (KA.out _ (by first | exact (below_new _).drew | exact ((below_new _).alloc (by simp) _).drew)) (fun hH => ?_)
        clear hK K
        (try simp only [Act.put, List.setIfInBounds_toArray, List.set_cons_zero, List.set_cons_succ])
        refine wpAnyH_ready (rs := [4]) (by kernel_rfl) (by simp) ?_
        refine AllReadyH.cons (o := ⟨none, _, _, _, _, _⟩) rfl (fun K hK => ?_) (AllReadyH.nil)
        go_simp
        refine hK.out _ _ (KA.out _ (by first | exact (below_new _).drew | exact ((below_new _).alloc (by simp) _).drew)) (fun hH => ?_)
        clear hK K
        (try simp only [Act.put, List.setIfInBounds_toArray, List.set_cons_zero, List.set_cons_succ])
        refine wpAnyH_ready (rs := [5]) (by kernel_rfl) (by simp) ?_
        refine AllReadyH.cons (o := ⟨none, _, _, _, _, _⟩) rfl (fun K hK => ?_) (AllReadyH.nil)
        go_simp
        refine hK.out _ _ (KA.out _ (by first | exact (below_new _).drew | exact ((below_new _).alloc (by simp) _).drew)) (fun hH => ?_)
        clear hK K
        (try simp only [Act.put, List.setIfInBounds_toArray, List.set_cons_zero, List.set_cons_succ])
        refine wpAnyH_done (by kernel_rfl) ?_ _
        refine NoPanic.normal ?_
        first
          | exact ⟨rfl, w2.heap.size, w2.heap.size + 1, rfl, heap_old (heap_new rfl), heap_new (by simp), by omega, Nat.le_refl _, by omega, ((below_new _).alloc (by simp) _).drew⟩
          | exact ⟨rfl, w2.heap.size + 1, w2.heap.size, rfl, heap_new (by simp), heap_old (heap_new rfl), by omega, by omega, Nat.le_refl _, ((below_new _).alloc (by simp) _).drew⟩
    · rintro e a3 w3 ⟨rfl, A, B, rfl, hA, hB, hAB, hA2, hB2, hb3⟩
      have HA := Lib.hid hA
      have HB := Lib.hid hB
      have HB3 := Lib.hid hb3
      have hAl := heap_lt hA
      have hBl := heap_lt hB
      have hs3 := hb3.size
      clear hA hB hb3 KA
      gi_wp2_with fail
      refine wpIn_rangeFunc_ownG rfl (by omega) (gf := 32) (lb := lb) rfl trivial (enters_of Try.func32 (by kernel_rfl) rfl)
        (HSQ.out (fun k => k = A ∨ k = B ∨ k = w.heap.size + 1 + 1) w3 _ (by omega) (by simp; intro k h1 h2; omega) (by intro k hk; omega) (keepsBut_below HB3.out))
        (fun h k => h.trans k) (fun W l o o' _ h h1 _ => keepsBut_b W l o o' h h1) (Below.refl _ _) (fun _ => rfl)
        (fun pre W => ((W.heap[A]? = some (.cells #[.int .i64 (pre.length : Int)] 3) ∧ W.heap[B]? = some (.cells #[.int .i64 (endHop pre c)] 2)) ∧ W.heap[w.heap.size + 1 + 1]? = some (.cells #[.bool false] 4)) ∧ Below w2.heap.size w2 W)
        (fun _ pre _ => Falls n c pre)
        (OwnFrom.and (OwnFrom.and (OwnFrom.and (Own.from (heap_own A (fun pre : List Ow => .cells #[.int .i64 (pre.length : Int)] 3) (fun _ => rfl)) _) (Own.from (heap_own B (fun pre : List Ow => .cells #[.int .i64 (endHop pre c)] 2) (fun _ => rfl)) _)) (Own.from (heap_own (w.heap.size + 1 + 1) (fun _ : List Ow => .cells #[.bool false] 4) (fun _ => rfl)) _)) (ownFrom_below (Nat.le_refl _) (by omega)))
        (fun _ => ownFrom_pure _ _)
        ⟨⟨⟨HA.out, HB.out⟩, heap_call HB3.out BX.out⟩, HB3.out⟩
        (fun x => { tmps := #[.agg #[.int .i64 n, .int .i64 l, .int .i64 s], .slice a xs.length cap, .agg #[.bool has, .int .i64 k, .int .i64 h, .int .i64 o, .int .i64 c], .pointer (some ⟨w.heap.size, 0, none⟩), undef, .pointer (some ⟨w.heap.size + 1, 0, none⟩), .pointer (some ⟨w.heap.size + 1 + 1, 0, none⟩), .func (.func 32) #[] lb, .pointer (some ⟨A, 0, none⟩), .pointer (some ⟨B, 0, none⟩), .int .i64 x.node, .int .i64 x.hop, .slice a xs.length cap, .int .i64 (xs.length : Int), .bool false, undef, .agg #[.int .i64 n, .int .i64 l, .int .i64 s], .slice a xs.length cap, .agg #[.bool has, .int .i64 k, .int .i64 h, .int .i64 o, .int .i64 c], .func (.func 32) #[] lb, .func (.func 32) #[] lb, .bool false, .pointer (some ⟨w.heap.size + 1, 4, none⟩), .int .i64 c, .func (.func 32) #[] lb, .int .i64 x.node, .int .i64 x.hop, undef, undef, undef, undef, undef, undef, undef, undef, undef, undef, undef, undef, undef, undef, undef, undef, undef, undef, undef, undef, undef, undef, undef], defers := [] }) ?assign ?body ?done ?stop
      case assign =>
        intro l x W K hK
        gi_wp2
        exact hK
      case body =>
        rintro lx pre x W ⟨⟨⟨h1, h2⟩, h0⟩, hB⟩ hlt
        have HBW := Lib.hid hB
        have H1 := Lib.hid h1
        have H2 := Lib.hid h2
        have H0 := Lib.hid h0
        have P2 := Lib.hid (heap_call hB P.out)
        have p0 : W.cell? ⟨w.heap.size, 0, none⟩ = some (.int .i64 n) := cell_of P2.out 0
        have c0 : W.cell? ⟨w.heap.size + 1 + 1, 0, none⟩ = some (.bool false) := cell_of H0.out 0
        have c1 : W.cell? ⟨A, 0, none⟩ = some (.int .i64 (pre.length : Int)) := cell_of H1.out 0
        have c2 : W.cell? ⟨B, 0, none⟩ = some (.int .i64 (endHop pre c)) := cell_of H2.out 0
        have f0 := free_of H0.out 0
        have f1 := free_of H1.out 0
        have f2 := free_of H2.out 0
        obtain ⟨nd, hp⟩ := x
        have HFA : Hid (n < (pre.length : Int) + 1 ∨ hp ≤ endHop pre c ∨ nd < 0 ∨ n ≤ nd → Falls n c (pre ++ [⟨nd, hp⟩])) := fun h => ⟨pre, ⟨nd, hp⟩, rfl, h⟩
        have HE : Hid (endHop (pre ++ [⟨nd, hp⟩]) c = hp) := endHop_snoc _ _ _
        have HLN : Hid (((pre ++ [(⟨nd, hp⟩ : Ow)]).length : Int) = (pre.length : Int) + 1) := Lib.hid (by simp)
        have hpl : pre.length < 200 := by omega
        have hAw : A ≠ w.heap.size := by omega
        have hBw : B ≠ w.heap.size := by omega
        have hAr : A ≠ w.heap.size + 1 + 1 := by omega
        have hBr : B ≠ w.heap.size + 1 + 1 := by omega
        generalize endHop pre c = lh at *
        generalize hpn : pre.length = pl at *
        clear hB h1 h2 h0
        by_cases t1 : n < (pl : Int) + 1
        · gi_wp2
          exact ⟨(((KeepsOthers.setCell _ _ _).trans (KeepsOthers.setCell _ _ _))).from _, HFA.out (.inl t1)⟩
        · by_cases t2 : hp ≤ lh
          · gi_wp2
            exact ⟨(((KeepsOthers.setCell _ _ _).trans (KeepsOthers.setCell _ _ _))).from _, HFA.out (.inr (.inl t2))⟩
          · by_cases t3 : nd < 0
            · gi_wp2
              exact ⟨(((KeepsOthers.setCell _ _ _).trans (KeepsOthers.setCell _ _ _))).from _, HFA.out (.inr (.inr (.inl t3)))⟩
            · by_cases t4 : n ≤ nd
              · gi_wp2
                exact ⟨(((KeepsOthers.setCell _ _ _).trans (KeepsOthers.setCell _ _ _))).from _, HFA.out (.inr (.inr (.inr t4)))⟩
              · gi_wp2
                refine ⟨(((KeepsOthers.setCell _ _ _).trans (KeepsOthers.setCell _ _ _))).from _, (keepsBut_set (Bx := fun k => k = A ∨ k = B ∨ k = w.heap.size + 1 + 1) (.inl rfl) _ _).trans (keepsBut_set (Bx := fun k => k = A ∨ k = B ∨ k = w.heap.size + 1 + 1) (.inr (.inl rfl)) _ _), ⟨⟨?_, ?_⟩, ?_⟩, (HBW.out.setCell hA2 _).setCell hB2 _⟩
                · rw [HLN.out]
                  exact (Below.heap_setCell _ _ _ _ (by show A ≠ B; exact hAB)).trans (heap_set (i := 0) (v := .int .i64 ((pl : Int) + 1)) H1.out)
                · rw [HE.out]
                  exact heap_set (i := 0) (v := .int .i64 hp) ((Below.heap_setCell _ _ _ _ (by show B ≠ A; exact hAB.symm)).trans H2.out)
                · exact (Below.heap_setCell _ _ _ _ (by show w.heap.size + 1 + 1 ≠ B; exact hBr.symm)).trans ((Below.heap_setCell _ _ _ _ (by show w.heap.size + 1 + 1 ≠ A; exact hAr.symm)).trans H0.out)
      case done =>
        rintro D ys' W hD rfl ⟨⟨⟨-, -⟩, h0⟩, hB⟩ hD0
        have H0 := Lib.hid h0
        have HD := Lib.hid hD0
        have HBW := Lib.hid (HB2.out.trans (hB.mono HB2.out.size))
        have hDn : D ≠ w.heap.size + 1 + 1 := by omega
        have hDw : w.heap.size ≤ D := by omega
        clear h0 hB hD0
        gi_wp2_with fail
        refine ⟨trivial, ?_⟩
        refine (callsIn_wide.2 (HW.out _)).mono ?_
        rintro e w4 ⟨rfl, hb⟩
        have H0 := Lib.hid (heap_call hb H0.out)
        have HD := Lib.hid (heap_call hb HD.out)
        have HBW := Lib.hid (HBW.out.trans (hb.mono HBW.out.size))
        have r0 : w4.cell? ⟨w.heap.size + 1 + 1, 0, none⟩ = some (.bool false) := cell_of H0.out 0
        have rf := free_of H0.out 0
        clear hb
        gi_wp2
        have HR0 := heap_set (i := 0) (v := .bool true) H0.out
        have HD2 := (Below.heap_setCell w4 ⟨w.heap.size + 1 + 1, 0, none⟩ (.bool true) D hDn).trans HD.out
        refine ⟨by simp, .inl ⟨_, _, rfl, run_takeDeferred HD2, ?_⟩⟩
        refine ⟨.bool true, ?_, rfl, (HBW.out.setCell (by show w.heap.size ≤ w.heap.size + 1 + 1; omega) _).trans (belowK_b (w := w) (Nat.le_refl _) _ D _ _ hDw HD2 rfl rfl)⟩
        have HR1 := (World.putObj_heap_other (o := .deferred none) (fun e => hDn e.symm)).trans HR0
        have hcR := cell_of HR1 0
        simp [results, Try.results6, go_sem, hcR]
      case stop =>
        rintro D cc pre W _ h1 h2 _
        exact absurd h2 (HF.out _ h1)
end Go.Proofs.Ytoanpfbdhkgncaa
