/-
  PROVED: The contract of site.Sites: how many sites a lock has, and the error's number. CONDITIONS: none.
-/
import Derived.Test.YthlkahpglabnbaaB
namespace Go.Proofs.Ythlkahpglabnbaa
open Go.RowKit
attribute [local go_sem] Oper.semAt_some
set_option maxRecDepth 100000
set_option maxHeartbeats 2000000
theorem heap_own {β : Type} (k : Nat) (o : β → Obj) (ho : ∀ s, (o s).isCells = true) : Own (fun s W => W.heap[k]? = some (o s)) := by
  rintro s X Y row h hg hrow
  refine (hg.block k (Array.getElem?_eq_some_iff.1 h).1 ?_).trans h
  intro e
  obtain ⟨o', h', hc⟩ := hrow k e.symm
  rw [h] at h'; cases h'; rw [ho] at hc; cases hc
theorem each_any (n l s : Int) (w : World) : Calls Try.prog 31 #[shapeV n l s] w fun e w' => e = .returned (.func (.func 35) #[] #[.pointer (some ⟨w.heap.size, 0, none⟩)]) ∧ w' = w.alloc (.cells #[.int .i64 n, .int .i64 l, .int .i64 s] 23) := by
  unfold shapeV
  go_enter Try.func31, Try.ntmps31
  go_wp2
  go_ret
  exact ⟨rfl, rfl⟩
theorem each_stops (m : Nat) (hm : 1 ≤ m) (Bs n₀ : Nat) (n l s : Int) (w : World) (h : w.heap[Bs]? = some (.cells #[.int .i64 n, .int .i64 l, .int .i64 s] 23)) :
    SeqStopsK Fence.wide m Try.prog 35 #[.pointer (some ⟨Bs, 0, none⟩)] (fun x : Nat => #[.int .i64 x, ticketV s x]) (Below n₀) (fun ys => ys = List.range (siteNo n l s)) (fun pre => pre <+: List.range (siteNo n l s)) (siteNo n l s) w := by
  intro y J Jx W hW hA _ hY h0
  have hb : Bs < w.heap.size := (Array.getElem?_eq_some_iff.1 h).1
  have hc : W.heap[Bs]? = some (.cells #[.int .i64 n, .int .i64 l, .int .i64 s] 23) := (hW.block Bs hb).trans h
  refine (each_in m hm y Bs n₀ n l s J Jx W hA ⟨?_, ?_, ?_⟩ hY h0).mono ?_
  · simp [World.cell?, hc]
  · simp [World.cell?, hc]
  · simp [World.cell?, hc]
  · rintro e W' ⟨h1, ⟨ys, rfl, h2⟩ | ⟨pre, h2, h3⟩⟩
    · exact ⟨h1, .inl ⟨_, rfl, h2⟩⟩
    · exact ⟨h1, .inr ⟨pre, h2, h3⟩⟩
theorem siteNo_le (n l s : Int) : siteNo n l s ≤ 256 := by
  unfold siteNo
  split
  · rename_i h
    have := many_le (shape_parts h)
    omega
  · omega
theorem sites_any (n l s : Int) (w : World) : Calls Try.prog 25 #[shapeV n l s] w fun e w' => e = .returned (.tuple #[.int .i64 (siteNo n l s), .int .i64 (shapeNo n l s)]) ∧ Below w.heap.size w w' := by
  have HAK := Lib.hid (asked_any n l s)
  have HEA := Lib.hid (each_any n l s)
  have hcc := siteNo_le n l s
  unfold shapeV at *
  refine (callsIn_wide (n := 3)).1 ?_
  refine callsIn_of_wp_marks Try.func25 rfl trivial ?_ rfl
  simp only [Try.ntmps25, List.size_toArray, List.length_cons, List.length_nil, Nat.reduceAdd, Nat.reduceSub, Array.replicate_succ, Array.replicate_zero, List.push_toArray, List.append_toArray, List.nil_append, List.cons_append]
  gi_wp2_with fail
  refine ⟨trivial, ?_⟩
  refine (callsIn_wide.2 (HEA.out _)).mono ?_
  rintro e w1 ⟨rfl, rfl⟩
  gi_wp2_with fail
  have hB0 : Below w.heap.size w (((w.alloc (.cells #[.int .i64 n, .int .i64 l, .int .i64 s] 23)).alloc (.cells #[.int .i64 0] 3)).alloc (.cells #[.int .i64 n, .int .i64 l, .int .i64 s] 23)) := (((below_new _).alloc (by simp) _).alloc (by simp; omega) _)
  have hb0 := (World.alloc_heap_new w (.cells #[.int .i64 n, .int .i64 l, .int .i64 s] 23))
  have hb1 := (World.alloc_heap_new (w.alloc (.cells #[.int .i64 n, .int .i64 l, .int .i64 s] 23)) (.cells #[.int .i64 0] 3))
  have hb2 := (World.alloc_heap_new ((w.alloc (.cells #[.int .i64 n, .int .i64 l, .int .i64 s] 23)).alloc (.cells #[.int .i64 0] 3)) (.cells #[.int .i64 n, .int .i64 l, .int .i64 s] 23))
  rw [World.size_alloc] at hb1
  rw [World.size_alloc, World.size_alloc] at hb2
  refine wpIn_rangeFunc_ownG rfl (by omega) (gf := 35) (lb := #[.pointer (some ⟨w.heap.size + 1 + 1, 0, none⟩)]) rfl trivial (enters_of Try.func35 (by kernel_rfl) rfl)
    (each_stops _ (by omega) (w.heap.size + 1 + 1) w.heap.size n l s _ hb2) belowK_t (belowK_b (by simp; omega)) (Below.refl _ _) (fun _ => rfl)
    (fun pre W => (W.heap[w.heap.size]? = some (.cells #[.int .i64 n, .int .i64 l, .int .i64 s] 23) ∧ W.heap[w.heap.size + 1]? = some (.cells #[.int .i64 (pre.length : Int)] 3)) ∧ Below w.heap.size w W)
    (fun _ _ _ => False)
    (OwnFrom.and (OwnFrom.and (Own.from (heap_own w.heap.size (fun _ => .cells #[.int .i64 n, .int .i64 l, .int .i64 s] 23) (fun _ => rfl)) _) (Own.from (heap_own (w.heap.size + 1) (fun pre : List Nat => .cells #[.int .i64 (pre.length : Int)] 3) (fun _ => rfl)) _)) (ownFrom_below (Nat.le_refl _) (by simp; omega)))
    (fun _ _ _ _ _ hs _ _ => hs)
    ⟨⟨?_, ?_⟩, hB0⟩
    (fun x => { tmps := #[.agg #[.int .i64 n, .int .i64 l, .int .i64 s], .pointer (some ⟨w.heap.size, 0, none⟩), .pointer (some ⟨w.heap.size + 1, 0, none⟩), .int .i64 0, .agg #[.int .i64 n, .int .i64 l, .int .i64 s], .func (.func 35) #[] #[.pointer (some ⟨w.heap.size + 1 + 1, 0, none⟩)], .int .i64 x, ticketV s x, undef, undef, undef, undef, undef], defers := [] }) ?assign ?body ?done ?stop
  case assign =>
    intro l x W K hK
    refine wpIn_skip ?_
    simp [Exit.then]
    exact hK
  case body =>
    rintro lx pre x W ⟨⟨h0, h1⟩, hB⟩ hlt
    have hv : Boxed W (w.heap.size + 1) 3 (.int .i64 (pre.length : Int)) := h1
    have hc := hv.cell
    have hf := hv.frozen
    have HB := Lib.hid hB
    clear hB
    gi_wp2
    refine ⟨(KeepsOthers.setCell _ _ _).from _, (Below.refl _ _).setCell (by simp) _, ⟨?_, ?_⟩, HB.out.setCell (by simp) _⟩
    · exact (Below.heap_setCell _ _ _ _ (by simp)).trans h0
    · have h := hv.set (.int .i64 ((pre.length : Int) + 1))
      simp only [List.length_append, List.length_cons, List.length_nil]
      exact h
  case done =>
    rintro D ys W hD rfl ⟨⟨h0, h1⟩, hB⟩ hD0
    have hv : Boxed W (w.heap.size + 1) 3 (.int .i64 ((List.range (siteNo n l s)).length : Int)) := h1
    rw [List.length_range] at hv
    have hc := hv.cell
    have hf := hv.frozen
    have hc0 : W.cell? ⟨w.heap.size, 0, none⟩ = some (.int .i64 n) := by simp [World.cell?, h0]
    have hc1 : W.cell? ⟨w.heap.size, 1, none⟩ = some (.int .i64 l) := by simp [World.cell?, h0]
    have hc2 : W.cell? ⟨w.heap.size, 2, none⟩ = some (.int .i64 s) := by simp [World.cell?, h0]
    have hDl : D < W.heap.size := (Array.getElem?_eq_some_iff.1 hD0).1
    have HB := Lib.hid hB
    clear hB h0 h1
    gi_wp2
    refine wpIn_region_any (by kernel_rfl) ?_
    change wpAnyIn _ _ _ _ _ _ _ _ _ (World.drew _)
    refine wpAnyIn_ready (rs := [0, 1]) (by kernel_rfl) (by simp) ?_
    refine AllReadyIn.cons (o := ⟨some 10, _, _, _, _, _⟩) rfl (fun K hK => ?_) (AllReadyIn.cons (o := ⟨some 11, _, _, _, _, _⟩) rfl (fun K hK => ?_) (AllReadyIn.nil))
    · go_simp
      refine hK _ _ ?_
      clear hK K
      (try simp only [Act.put, List.setIfInBounds_toArray, List.set_cons_zero, List.set_cons_succ])
      refine wpAnyIn_ready (rs := [1]) (by kernel_rfl) (by simp) ?_
      refine AllReadyIn.cons (o := ⟨some 11, _, _, _, _, _⟩) rfl (fun K hK => ?_) (AllReadyIn.nil)
      go_simp
      refine hK _ _ ?_
      clear hK K
      (try simp only [Act.put, List.setIfInBounds_toArray, List.set_cons_zero, List.set_cons_succ])
      refine wpAnyIn_ready (rs := [2]) (by kernel_rfl) (by simp) ?_
      refine AllReadyIn.cons (o := ⟨some 12, _, _, _, _, _⟩) rfl (fun K hK => ?_) (AllReadyIn.nil)
      go_simp
      refine ⟨trivial, ?_⟩
      refine (callsIn_wide.2 (HAK.out W.drew)).mono ?_
      rintro e w2 ⟨rfl, hb2⟩
      have hv2 : Boxed w2 (w.heap.size + 1) 3 _ := (hb2.block _ (by simpa using hv.lt)).trans hv
      have hc2 := hv2.cell
      have hf2 := hv2.frozen
      have hk2 := (hb2.block D (by simpa using hDl)).trans hD0
      have HB2 := Lib.hid (HB.out.drew.trans (hb2.mono HB.out.drew.size))
      clear hb2
      refine hK _ _ ?_
      clear hK K
      (try simp only [Act.put, List.setIfInBounds_toArray, List.set_cons_zero, List.set_cons_succ])
      refine wpAnyIn_ready (rs := [3]) (by kernel_rfl) (by simp) ?_
      refine AllReadyIn.cons (o := ⟨none, _, _, _, _, _⟩) rfl (fun K hK => ?_) (AllReadyIn.nil)
      go_simp
      refine hK _ _ ?_
      clear hK K
      (try simp only [Act.put, List.setIfInBounds_toArray, List.set_cons_zero, List.set_cons_succ])
      refine wpAnyIn_ready (rs := [4]) (by kernel_rfl) (by simp) ?_
      refine AllReadyIn.cons (o := ⟨some 3, _, _, _, _, _⟩) rfl (fun K hK => ?_) (AllReadyIn.nil)
      go_simp
      refine hK _ _ ?_
      clear hK K
      (try simp only [Act.put, List.setIfInBounds_toArray, List.set_cons_zero, List.set_cons_succ])
      refine wpAnyIn_done (by kernel_rfl) ?_ _
      gi_wp2
      have hne : D ≠ w.heap.size + 1 := by simp at hD; omega
      have hD3 := (Below.heap_setCell w2 ⟨w.heap.size + 1, 0, none⟩ (.int .i64 (siteNo n l s : Int)) D hne).trans hk2
      refine ⟨by simp, .inl ⟨_, _, rfl, run_takeDeferred hD3, ?_⟩⟩
      have hb3 : Boxed ((w2.setCell ⟨w.heap.size + 1, 0, none⟩ (.int .i64 (siteNo n l s : Int))).putObj D (.deferred none)) (w.heap.size + 1) 3 (.int .i64 (siteNo n l s : Int)) := (World.putObj_heap_other (fun e => hne e.symm)).trans (hv2.set _)
      have hc3 := hb3.cell
      refine ⟨_, ?_, rfl, (HB2.out.setCell (by simp) _).trans (belowK_b (w := w) (Nat.le_refl _) _ D _ _ (by simp at hD; omega) hD3 rfl rfl)⟩
      simp [results, Try.results25, go_sem, hc3]
    · go_simp
      refine hK _ _ ?_
      clear hK K
      (try simp only [Act.put, List.setIfInBounds_toArray, List.set_cons_zero, List.set_cons_succ])
      refine wpAnyIn_ready (rs := [0, 2]) (by kernel_rfl) (by simp) ?_
      refine AllReadyIn.cons (o := ⟨some 10, _, _, _, _, _⟩) rfl (fun K hK => ?_) (AllReadyIn.cons (o := ⟨some 12, _, _, _, _, _⟩) rfl (fun K hK => ?_) (AllReadyIn.nil))
      · go_simp
        refine hK _ _ ?_
        clear hK K
        (try simp only [Act.put, List.setIfInBounds_toArray, List.set_cons_zero, List.set_cons_succ])
        refine wpAnyIn_ready (rs := [2]) (by kernel_rfl) (by simp) ?_
        refine AllReadyIn.cons (o := ⟨some 12, _, _, _, _, _⟩) rfl (fun K hK => ?_) (AllReadyIn.nil)
        go_simp
        refine ⟨trivial, ?_⟩
        refine (callsIn_wide.2 (HAK.out W.drew)).mono ?_
        rintro e w2 ⟨rfl, hb2⟩
        have hv2 : Boxed w2 (w.heap.size + 1) 3 _ := (hb2.block _ (by simpa using hv.lt)).trans hv
        have hc2 := hv2.cell
        have hf2 := hv2.frozen
        have hk2 := (hb2.block D (by simpa using hDl)).trans hD0
        have HB2 := Lib.hid (HB.out.drew.trans (hb2.mono HB.out.drew.size))
        clear hb2
        refine hK _ _ ?_
        clear hK K
        (try simp only [Act.put, List.setIfInBounds_toArray, List.set_cons_zero, List.set_cons_succ])
        refine wpAnyIn_ready (rs := [3]) (by kernel_rfl) (by simp) ?_
        refine AllReadyIn.cons (o := ⟨none, _, _, _, _, _⟩) rfl (fun K hK => ?_) (AllReadyIn.nil)
        go_simp
        refine hK _ _ ?_
        clear hK K
        (try simp only [Act.put, List.setIfInBounds_toArray, List.set_cons_zero, List.set_cons_succ])
        refine wpAnyIn_ready (rs := [4]) (by kernel_rfl) (by simp) ?_
        refine AllReadyIn.cons (o := ⟨some 3, _, _, _, _, _⟩) rfl (fun K hK => ?_) (AllReadyIn.nil)
        go_simp
        refine hK _ _ ?_
        clear hK K
        (try simp only [Act.put, List.setIfInBounds_toArray, List.set_cons_zero, List.set_cons_succ])
        refine wpAnyIn_done (by kernel_rfl) ?_ _
        gi_wp2
        have hne : D ≠ w.heap.size + 1 := by simp at hD; omega
        have hD3 := (Below.heap_setCell w2 ⟨w.heap.size + 1, 0, none⟩ (.int .i64 (siteNo n l s : Int)) D hne).trans hk2
        refine ⟨by simp, .inl ⟨_, _, rfl, run_takeDeferred hD3, ?_⟩⟩
        have hb3 : Boxed ((w2.setCell ⟨w.heap.size + 1, 0, none⟩ (.int .i64 (siteNo n l s : Int))).putObj D (.deferred none)) (w.heap.size + 1) 3 (.int .i64 (siteNo n l s : Int)) := (World.putObj_heap_other (fun e => hne e.symm)).trans (hv2.set _)
        have hc3 := hb3.cell
        refine ⟨_, ?_, rfl, (HB2.out.setCell (by simp) _).trans (belowK_b (w := w) (Nat.le_refl _) _ D _ _ (by simp at hD; omega) hD3 rfl rfl)⟩
        simp [results, Try.results25, go_sem, hc3]
      · go_simp
        refine ⟨trivial, ?_⟩
        refine (callsIn_wide.2 (HAK.out W.drew)).mono ?_
        rintro e w2 ⟨rfl, hb2⟩
        have hv2 : Boxed w2 (w.heap.size + 1) 3 _ := (hb2.block _ (by simpa using hv.lt)).trans hv
        have hc2 := hv2.cell
        have hf2 := hv2.frozen
        have hk2 := (hb2.block D (by simpa using hDl)).trans hD0
        have HB2 := Lib.hid (HB.out.drew.trans (hb2.mono HB.out.drew.size))
        clear hb2
        refine hK _ _ ?_
        clear hK K
        (try simp only [Act.put, List.setIfInBounds_toArray, List.set_cons_zero, List.set_cons_succ])
        refine wpAnyIn_ready (rs := [0]) (by kernel_rfl) (by simp) ?_
        refine AllReadyIn.cons (o := ⟨some 10, _, _, _, _, _⟩) rfl (fun K hK => ?_) (AllReadyIn.nil)
        go_simp
        refine hK _ _ ?_
        clear hK K
        (try simp only [Act.put, List.setIfInBounds_toArray, List.set_cons_zero, List.set_cons_succ])
        refine wpAnyIn_ready (rs := [3]) (by kernel_rfl) (by simp) ?_
        refine AllReadyIn.cons (o := ⟨none, _, _, _, _, _⟩) rfl (fun K hK => ?_) (AllReadyIn.nil)
        go_simp
        refine hK _ _ ?_
        clear hK K
        (try simp only [Act.put, List.setIfInBounds_toArray, List.set_cons_zero, List.set_cons_succ])
        refine wpAnyIn_ready (rs := [4]) (by kernel_rfl) (by simp) ?_
        refine AllReadyIn.cons (o := ⟨some 3, _, _, _, _, _⟩) rfl (fun K hK => ?_) (AllReadyIn.nil)
        go_simp
        refine hK _ _ ?_
        clear hK K
        (try simp only [Act.put, List.setIfInBounds_toArray, List.set_cons_zero, List.set_cons_succ])
        refine wpAnyIn_done (by kernel_rfl) ?_ _
        gi_wp2
        have hne : D ≠ w.heap.size + 1 := by simp at hD; omega
        have hD3 := (Below.heap_setCell w2 ⟨w.heap.size + 1, 0, none⟩ (.int .i64 (siteNo n l s : Int)) D hne).trans hk2
        refine ⟨by simp, .inl ⟨_, _, rfl, run_takeDeferred hD3, ?_⟩⟩
        have hb3 : Boxed ((w2.setCell ⟨w.heap.size + 1, 0, none⟩ (.int .i64 (siteNo n l s : Int))).putObj D (.deferred none)) (w.heap.size + 1) 3 (.int .i64 (siteNo n l s : Int)) := (World.putObj_heap_other (fun e => hne e.symm)).trans (hv2.set _)
        have hc3 := hb3.cell
        refine ⟨_, ?_, rfl, (HB2.out.setCell (by simp) _).trans (belowK_b (w := w) (Nat.le_refl _) _ D _ _ (by simp at hD; omega) hD3 rfl rfl)⟩
        simp [results, Try.results25, go_sem, hc3]
  case stop =>
    rintro D c pre W _ _ h _
    exact h.elim
  · rw [Below.heap_alloc _ _ _ (by simp; omega), Below.heap_alloc _ _ _ (by simp)]; exact hb0
  · rw [Below.heap_alloc _ _ _ (by simp)]; exact hb1
end Go.Proofs.Ythlkahpglabnbaa
