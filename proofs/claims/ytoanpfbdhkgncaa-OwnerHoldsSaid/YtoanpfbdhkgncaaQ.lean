/-
  PROVED: The contract of the reference's Way. CONDITIONS: at most 1000 guesses, which lie in the world.
-/
import Derived.Test.YtoanpfbdhkgncaaP
import Derived.Deep.DeepCutAuto
namespace Go.Proofs.Ytoanpfbdhkgncaa
open Go.RowKit
set_option maxRecDepth 100000
set_option maxHeartbeats 4000000
theorem owns_one {W : World} {b : Nat} {x : Ow} (h : W.heap[b]? = some (.cells #[.int .i64 x.node, .int .i64 x.hop] 25)) : Owns W (.slice (some ⟨b, 0, none⟩) 1 1) [x] := by
  refine ⟨_, _, rfl, by simp, fun _ => ⟨b, 0, rfl, fun i hi => ?_⟩⟩
  obtain rfl : i = 0 := by simpa using hi
  exact ⟨cell_of h _, cell_of h _⟩
theorem own_not {w : World} {B k n : Nat} {v : Value} {xs : List Value} {c : Array Value} {t : TypeId} (h : w.ownsRow B 25 2 v n xs) (hk : w.heap[k]? = some (.cells c t)) (ht : t ≠ 25) : v.ownBlock ≠ some k := by
  intro e
  obtain ⟨h1, ⟨rfl, rfl⟩ | ⟨g, cap, cur, rfl, h4, h5, h6⟩⟩ := h
  · cases e
  · simp only [Value.ownBlock] at e
    cases e
    rw [h5] at hk
    cases hk
    exact ht rfl
theorem flat_append (a b : List Ow) : flat (a ++ b) = flat a ++ flat b := by simp [flat]
def WayPost (ok : Bool) (ys : List Ow) (w : World) (e : Ending) (w' : World) : Prop :=
  (∃ v, e = .returned (.tuple #[v, .bool ok]) ∧ w'.ownsRow w.heap.size 25 2 v ys.length (flat ys)) ∧ Below w.heap.size w w'
theorem refWay_any (n l s : Int) (v : Value) (xs : List Ow) (x : Sk) (w : World) (h : Owns w v xs) (hsz : xs.length ≤ 1000) :
    Calls Try.prog 15 #[shapeV n l s, v, x.val] w (WayPost (askedOk n l s xs x) (wayR n l s xs x) w) := by
  have HA := Lib.hid (refShape_any n l s)
  have HB := Lib.hid (refNode_any n l s x.origin)
  have HC := Lib.hid (refHop_any x.hop)
  have HRT := Lib.hid (refRight_any n l s)
  have HON := Lib.hid (fun me x w => refOn_any2 n l s me x w)
  have HO := Lib.hid h
  have HPT := Lib.hid (fun h => @asked_parts n l s xs x h)
  obtain ⟨ao, cp, rfl, hl, -⟩ := h
  have HR : Hid (askedOk n l s xs x = (shapeOk n l s && nodeOk n x.origin && hopOk x.hop && decide ((xs.length : Int) = n) && xs.all (ownOk n l s))) := rfl
  have HYS : Hid (wayR n l s xs x = if askedOk n l s xs x then way xs x.origin x.origin x.hop else []) := rfl
  obtain ⟨has, ⟨k, h⟩, o, c⟩ := x
  generalize askedOk n l s xs ⟨has, ⟨k, h⟩, o, c⟩ = ok at *
  generalize wayR n l s xs ⟨has, ⟨k, h⟩, o, c⟩ = ys at *
  simp only [Sk.val, shapeV] at *
  cases ha : shapeOk n l s
  · have HR2 : Hid (ok = false) := Lib.hid (by rw [HR.out]; simp [*])
    have HY2 : Hid (ys = []) := Lib.hid (by rw [HYS.out, HR2.out]; rfl)
    clear HR HYS HPT HON
    rw [ha] at HA
    go_enter Try.func15, Try.ntmps15
    go_wp2_with fail
    refine (HA.out _).mono ?_
    rintro e w1 ⟨rfl, hb⟩
    have P := Lib.hid (heap_call hb (heap_old (heap_new (W := w) rfl)))
    have Q : Hid (w1.heap[w.heap.size + 1]? = some (.cells #[.bool has, .int .i64 k, .int .i64 h, .int .i64 o, .int .i64 c] 27)) := heap_call hb (heap_new (by simp))
    have HBz := Lib.hid (((below_new _).alloc (by simp) _).trans (hb.mono (by simp; omega)))
    clear hb
    go_wp2
    go_ret2
    rw [HR2.out, HY2.out]
    exact ⟨⟨_, rfl, World.ownsRow_nil _ _ _ _⟩, HBz.out⟩
  rw [ha] at HA
  by_cases hn : (xs.length : Int) = n
  rotate_left
  · have HR2 : Hid (ok = false) := Lib.hid (by rw [HR.out]; simp [*])
    have HY2 : Hid (ys = []) := Lib.hid (by rw [HYS.out, HR2.out]; rfl)
    clear HR HYS HPT HON
    have e1 : ((xs.length : Int) != n) = true := by simpa using hn
    go_enter Try.func15, Try.ntmps15
    go_wp2_with fail
    refine (HA.out _).mono ?_
    rintro e w1 ⟨rfl, hb⟩
    have P := Lib.hid (heap_call hb (heap_old (heap_new (W := w) rfl)))
    have Q : Hid (w1.heap[w.heap.size + 1]? = some (.cells #[.bool has, .int .i64 k, .int .i64 h, .int .i64 o, .int .i64 c] 27)) := heap_call hb (heap_new (by simp))
    have HBz := Lib.hid (((below_new _).alloc (by simp) _).trans (hb.mono (by simp; omega)))
    clear hb
    have p0 : w1.cell? ⟨w.heap.size, 0, none⟩ = some (.int .i64 n) := cell_of P.out 0
    have p1 : w1.cell? ⟨w.heap.size, 1, none⟩ = some (.int .i64 l) := cell_of P.out 1
    have p2 : w1.cell? ⟨w.heap.size, 2, none⟩ = some (.int .i64 s) := cell_of P.out 2
    go_wp2
    go_ret2
    rw [HR2.out, HY2.out]
    exact ⟨⟨_, rfl, World.ownsRow_nil _ _ _ _⟩, HBz.out⟩
  have e1 : ((xs.length : Int) != n) = false := by simpa using hn
  cases hb0 : nodeOk n o
  · have HR2 : Hid (ok = false) := Lib.hid (by rw [HR.out]; simp [*])
    have HY2 : Hid (ys = []) := Lib.hid (by rw [HYS.out, HR2.out]; rfl)
    clear HR HYS HPT HON
    rw [hb0] at HB
    go_enter Try.func15, Try.ntmps15
    go_wp2_with fail
    refine (HA.out _).mono ?_
    rintro e w1 ⟨rfl, hb⟩
    have P := Lib.hid (heap_call hb (heap_old (heap_new (W := w) rfl)))
    have Q : Hid (w1.heap[w.heap.size + 1]? = some (.cells #[.bool has, .int .i64 k, .int .i64 h, .int .i64 o, .int .i64 c] 27)) := heap_call hb (heap_new (by simp))
    have HBz := Lib.hid (((below_new _).alloc (by simp) _).trans (hb.mono (by simp; omega)))
    clear hb
    have p0 : w1.cell? ⟨w.heap.size, 0, none⟩ = some (.int .i64 n) := cell_of P.out 0
    have p1 : w1.cell? ⟨w.heap.size, 1, none⟩ = some (.int .i64 l) := cell_of P.out 1
    have p2 : w1.cell? ⟨w.heap.size, 2, none⟩ = some (.int .i64 s) := cell_of P.out 2
    have q3 : w1.cell? ⟨w.heap.size + 1, 3, none⟩ = some (.int .i64 o) := cell_of Q.out 3
    go_wp2_with fail
    refine (HB.out _).mono ?_
    rintro e w2 ⟨rfl, hb⟩
    have HB2 := Lib.hid (HBz.out.trans (hb.mono HBz.out.size))
    clear hb
    go_wp2
    go_ret2
    rw [HR2.out, HY2.out]
    exact ⟨⟨_, rfl, World.ownsRow_nil _ _ _ _⟩, HB2.out⟩
  rw [hb0] at HB
  cases hc0 : hopOk c
  · have HR2 : Hid (ok = false) := Lib.hid (by rw [HR.out]; simp [*])
    have HY2 : Hid (ys = []) := Lib.hid (by rw [HYS.out, HR2.out]; rfl)
    clear HR HYS HPT HON
    rw [hc0] at HC
    go_enter Try.func15, Try.ntmps15
    go_wp2_with fail
    refine (HA.out _).mono ?_
    rintro e w1 ⟨rfl, hb⟩
    have P := Lib.hid (heap_call hb (heap_old (heap_new (W := w) rfl)))
    have Q : Hid (w1.heap[w.heap.size + 1]? = some (.cells #[.bool has, .int .i64 k, .int .i64 h, .int .i64 o, .int .i64 c] 27)) := heap_call hb (heap_new (by simp))
    have HBz := Lib.hid (((below_new _).alloc (by simp) _).trans (hb.mono (by simp; omega)))
    clear hb
    have p0 : w1.cell? ⟨w.heap.size, 0, none⟩ = some (.int .i64 n) := cell_of P.out 0
    have p1 : w1.cell? ⟨w.heap.size, 1, none⟩ = some (.int .i64 l) := cell_of P.out 1
    have p2 : w1.cell? ⟨w.heap.size, 2, none⟩ = some (.int .i64 s) := cell_of P.out 2
    have q3 : w1.cell? ⟨w.heap.size + 1, 3, none⟩ = some (.int .i64 o) := cell_of Q.out 3
    go_wp2_with fail
    refine (HB.out _).mono ?_
    rintro e w2 ⟨rfl, hb⟩
    have P := Lib.hid (heap_call hb P.out)
    have Q := Lib.hid (heap_call hb Q.out)
    have HB2 := Lib.hid (HBz.out.trans (hb.mono HBz.out.size))
    have q4 : w2.cell? ⟨w.heap.size + 1, 4, none⟩ = some (.int .i64 c) := cell_of Q.out 4
    clear hb p0 p1 p2 q3
    go_wp2_with fail
    refine (HC.out _).mono ?_
    rintro e w3 ⟨rfl, rfl⟩
    go_wp2
    go_ret2
    rw [HR2.out, HY2.out]
    exact ⟨⟨_, rfl, World.ownsRow_nil _ _ _ _⟩, HB2.out⟩
  rw [hc0] at HC
  go_enter Try.func15, Try.ntmps15
  go_wp2_with fail
  refine (HA.out _).mono ?_
  rintro e w1 ⟨rfl, hb⟩
  have P := Lib.hid (heap_call hb (heap_old (heap_new (W := w) rfl)))
  have Q : Hid (w1.heap[w.heap.size + 1]? = some (.cells #[.bool has, .int .i64 k, .int .i64 h, .int .i64 o, .int .i64 c] 27)) := heap_call hb (heap_new (by simp))
  have HBz := Lib.hid (((below_new _).alloc (by simp) _).trans (hb.mono (by simp; omega)))
  clear hb
  have p0 : w1.cell? ⟨w.heap.size, 0, none⟩ = some (.int .i64 n) := cell_of P.out 0
  have p1 : w1.cell? ⟨w.heap.size, 1, none⟩ = some (.int .i64 l) := cell_of P.out 1
  have p2 : w1.cell? ⟨w.heap.size, 2, none⟩ = some (.int .i64 s) := cell_of P.out 2
  have q3 : w1.cell? ⟨w.heap.size + 1, 3, none⟩ = some (.int .i64 o) := cell_of Q.out 3
  go_wp2_with fail
  refine (HB.out _).mono ?_
  rintro e w2 ⟨rfl, hb⟩
  have P := Lib.hid (heap_call hb P.out)
  have Q := Lib.hid (heap_call hb Q.out)
  have HB2 := Lib.hid (HBz.out.trans (hb.mono HBz.out.size))
  have q4 : w2.cell? ⟨w.heap.size + 1, 4, none⟩ = some (.int .i64 c) := cell_of Q.out 4
  clear hb p0 p1 p2 q3
  go_wp2_with fail
  refine (HC.out _).mono ?_
  rintro e w3 ⟨rfl, rfl⟩
  go_wp2_with fail
  go_loopw [8] (fun i wr => ∃ j : Nat, i = .int .i64 j ∧ j ≤ xs.length ∧ Hid ((xs.take j).all (ownOk n l s) = true) ∧ Hid (Below w.heap.size w wr) ∧ Hid (wr.heap[w.heap.size]? = some (.cells #[.int .i64 n, .int .i64 l, .int .i64 s] 23)) ∧ Hid (wr.heap[w.heap.size + 1]? = some (.cells #[.bool has, .int .i64 k, .int .i64 h, .int .i64 o, .int .i64 c] 27))) (fun i _ => xs.length - (intOf i).toNat)
  case atStart => exact ⟨0, rfl, by omega, rfl, HB2, P, Q⟩
  case round =>
    obtain ⟨j, rfl, hj, hall, hw, hP, hQ⟩ := hrel
    by_cases hlt : j < xs.length
    · obtain ⟨ao2, cp2, e2, -, hc2⟩ := HO.out.below hw.out (Nat.le_refl _)
      cases e2
      obtain ⟨b, off, rfl, hcell⟩ := hc2 (by omega)
      obtain ⟨d0, d1⟩ := hcell j hlt
      generalize hy : xs[j] = y at d0 d1
      have HY := Lib.hid hy
      have KA : Hid (∀ w' : World, Below wr.heap.size wr w' → (fun w' => Below wr.heap.size wr w' ∧ w'.cell? ⟨w.heap.size, 0, none⟩ = some (.int .i64 n) ∧ w'.cell? ⟨w.heap.size, 1, none⟩ = some (.int .i64 l) ∧ w'.cell? ⟨w.heap.size, 2, none⟩ = some (.int .i64 s) ∧ w'.cell? ⟨b, off + j * 2, none⟩ = some (.int .i64 y.node) ∧ w'.cell? ⟨b, off + j * 2 + 1, none⟩ = some (.int .i64 y.hop)) w') := fun w' hb => ⟨hb, keepC hb (cell_of hP.out 0), keepC hb (cell_of hP.out 1), keepC hb (cell_of hP.out 2), keepC hb d0, keepC hb d1⟩
      clear hcell hc2 hy d0 d1
      have hk0 : (0 : Int) ≤ (j : Int) := by omega
      have hk1 : (j : Int) < (xs.length : Int) := by omega
      cases hko : ownOk n l s y
      · have HRT2 := Lib.hid (HRT.out y)
        rw [hko] at HRT2
        have HRT := HRT2
        have HR2 : Hid (ok = false) := Lib.hid (by
          rw [HR.out]
          have : xs.all (ownOk n l s) = false := by
            cases ha : xs.all (ownOk n l s)
            · rfl
            · have h1 := List.all_eq_true.1 ha xs[j] (List.getElem_mem hlt)
              rw [HY.out, hko] at h1; cases h1
          rw [this]; simp)
        have HY2 : Hid (ys = []) := Lib.hid (by rw [HYS.out, HR2.out]; rfl)
        clear HRT2 hko
        go_wp2_with fail
        refine wp_region_held_drew (S := fun w' => Below wr.heap.size wr w' ∧ w'.cell? ⟨w.heap.size, 0, none⟩ = some (.int .i64 n) ∧ w'.cell? ⟨w.heap.size, 1, none⟩ = some (.int .i64 l) ∧ w'.cell? ⟨w.heap.size, 2, none⟩ = some (.int .i64 s) ∧ w'.cell? ⟨b, off + j * 2, none⟩ = some (.int .i64 y.node) ∧ w'.cell? ⟨b, off + j * 2 + 1, none⟩ = some (.int .i64 y.hop)) (by kernel_rfl) (KA.out _ (Below.refl _ _).drew) (fun hH => ?_)
        refine wpAnyH_take (i := 0) (oi := ⟨some 45, _, _, _, _, _⟩) (v := ?_) rfl (by kernel_rfl) (by kernel_rfl) (by kernel_rfl) (fun _ _ _ h => h) (Or.inl ⟨by rfl, ?_⟩) hH ?_
        rotate_left
        · intro W hSW; go_split_ands; go_simp; with_reducible rfl
        (try simp only [Act.put, List.setIfInBounds_toArray, List.set_cons_zero, List.set_cons_succ])
        refine wpAnyH_take (i := 1) (oi := ⟨some 46, _, _, _, _, _⟩) (v := ?_) rfl (by kernel_rfl) (by kernel_rfl) (by kernel_rfl) (fun _ _ _ h => h) (Or.inl ⟨by rfl, ?_⟩) hH ?_
        rotate_left
        · intro W _; go_simp; with_reducible rfl
        (try simp only [Act.put, List.setIfInBounds_toArray, List.set_cons_zero, List.set_cons_succ])
        refine wpAnyH_take (i := 2) (oi := ⟨some 47, _, _, _, _, _⟩) (v := ?_) rfl (by kernel_rfl) (by kernel_rfl) (by kernel_rfl) (fun _ _ _ h => h) (Or.inl ⟨by rfl, ?_⟩) hH ?_
        rotate_left
        · intro W _; go_simp; with_reducible rfl
        (try simp only [Act.put, List.setIfInBounds_toArray, List.set_cons_zero, List.set_cons_succ])
        refine wpAnyH_take (i := 3) (oi := ⟨some 48, _, _, _, _, _⟩) (v := ?_) rfl (by kernel_rfl) (by kernel_rfl) (by kernel_rfl) (fun _ _ _ h => h) (Or.inl ⟨by rfl, ?_⟩) hH ?_
        rotate_left
        · intro W _; go_simp; with_reducible rfl
        (try simp only [Act.put, List.setIfInBounds_toArray, List.set_cons_zero, List.set_cons_succ])
        refine wpAnyH_take (i := 4) (oi := ⟨some 49, _, _, _, _, _⟩) (v := ?_) rfl (by kernel_rfl) (by kernel_rfl) (by kernel_rfl) (fun _ _ _ h => h) (Or.inl ⟨by rfl, ?_⟩) hH ?_
        rotate_left
        · intro W hSW; go_split_ands; go_simp; with_reducible rfl
        (try simp only [Act.put, List.setIfInBounds_toArray, List.set_cons_zero, List.set_cons_succ])
        refine wpAnyH_ready (rs := [5]) (by kernel_rfl) (by simp) ?_
        refine AllReadyH.cons (o := ⟨some 50, _, _, _, _, _⟩) rfl (fun K hK => ?_) (AllReadyH.nil)
        go_simp
        refine (HRT.out _).mono ?_
        rintro e w4 ⟨rfl, hb⟩
        refine hK.out _ _ (KA.out _ (hH.1.trans (hb.mono hH.1.size))) (fun hH => ?_)
        clear hK K
        (try simp only [Act.put, List.setIfInBounds_toArray, List.set_cons_zero, List.set_cons_succ])
        refine wpAnyH_take (i := 6) (oi := ⟨some 51, _, _, _, _, _⟩) (v := ?_) rfl (by kernel_rfl) (by kernel_rfl) (by kernel_rfl) (fun _ _ _ h => h) (Or.inl ⟨by rfl, ?_⟩) hH ?_
        rotate_left
        · intro W _; go_simp; with_reducible rfl
        (try simp only [Act.put, List.setIfInBounds_toArray, List.set_cons_zero, List.set_cons_succ])
        refine wpAnyH_done (by kernel_rfl) ?_ _
        have HB4 := Lib.hid hH.1
        clear hH KA
        go_wp2
        go_ret2
        rw [HR2.out, HY2.out]
        exact ⟨⟨_, rfl, World.ownsRow_nil _ _ _ _⟩, hw.out.trans (HB4.out.mono hw.out.size)⟩
      · have HRT2 := Lib.hid (HRT.out y)
        rw [hko] at HRT2
        have HRT := HRT2
        have HK := Lib.hid hko
        clear HRT2 hko
        go_wp2_with fail
        refine wp_region_held_drew (S := fun w' => Below wr.heap.size wr w' ∧ w'.cell? ⟨w.heap.size, 0, none⟩ = some (.int .i64 n) ∧ w'.cell? ⟨w.heap.size, 1, none⟩ = some (.int .i64 l) ∧ w'.cell? ⟨w.heap.size, 2, none⟩ = some (.int .i64 s) ∧ w'.cell? ⟨b, off + j * 2, none⟩ = some (.int .i64 y.node) ∧ w'.cell? ⟨b, off + j * 2 + 1, none⟩ = some (.int .i64 y.hop)) (by kernel_rfl) (KA.out _ (Below.refl _ _).drew) (fun hH => ?_)
        refine wpAnyH_take (i := 0) (oi := ⟨some 45, _, _, _, _, _⟩) (v := ?_) rfl (by kernel_rfl) (by kernel_rfl) (by kernel_rfl) (fun _ _ _ h => h) (Or.inl ⟨by rfl, ?_⟩) hH ?_
        rotate_left
        · intro W hSW; go_split_ands; go_simp; with_reducible rfl
        (try simp only [Act.put, List.setIfInBounds_toArray, List.set_cons_zero, List.set_cons_succ])
        refine wpAnyH_take (i := 1) (oi := ⟨some 46, _, _, _, _, _⟩) (v := ?_) rfl (by kernel_rfl) (by kernel_rfl) (by kernel_rfl) (fun _ _ _ h => h) (Or.inl ⟨by rfl, ?_⟩) hH ?_
        rotate_left
        · intro W _; go_simp; with_reducible rfl
        (try simp only [Act.put, List.setIfInBounds_toArray, List.set_cons_zero, List.set_cons_succ])
        refine wpAnyH_take (i := 2) (oi := ⟨some 47, _, _, _, _, _⟩) (v := ?_) rfl (by kernel_rfl) (by kernel_rfl) (by kernel_rfl) (fun _ _ _ h => h) (Or.inl ⟨by rfl, ?_⟩) hH ?_
        rotate_left
        · intro W _; go_simp; with_reducible rfl
        (try simp only [Act.put, List.setIfInBounds_toArray, List.set_cons_zero, List.set_cons_succ])
        refine wpAnyH_take (i := 3) (oi := ⟨some 48, _, _, _, _, _⟩) (v := ?_) rfl (by kernel_rfl) (by kernel_rfl) (by kernel_rfl) (fun _ _ _ h => h) (Or.inl ⟨by rfl, ?_⟩) hH ?_
        rotate_left
        · intro W _; go_simp; with_reducible rfl
        (try simp only [Act.put, List.setIfInBounds_toArray, List.set_cons_zero, List.set_cons_succ])
        refine wpAnyH_take (i := 4) (oi := ⟨some 49, _, _, _, _, _⟩) (v := ?_) rfl (by kernel_rfl) (by kernel_rfl) (by kernel_rfl) (fun _ _ _ h => h) (Or.inl ⟨by rfl, ?_⟩) hH ?_
        rotate_left
        · intro W hSW; go_split_ands; go_simp; with_reducible rfl
        (try simp only [Act.put, List.setIfInBounds_toArray, List.set_cons_zero, List.set_cons_succ])
        refine wpAnyH_ready (rs := [5]) (by kernel_rfl) (by simp) ?_
        refine AllReadyH.cons (o := ⟨some 50, _, _, _, _, _⟩) rfl (fun K hK => ?_) (AllReadyH.nil)
        go_simp
        refine (HRT.out _).mono ?_
        rintro e w4 ⟨rfl, hb⟩
        refine hK.out _ _ (KA.out _ (hH.1.trans (hb.mono hH.1.size))) (fun hH => ?_)
        clear hK K
        (try simp only [Act.put, List.setIfInBounds_toArray, List.set_cons_zero, List.set_cons_succ])
        refine wpAnyH_take (i := 6) (oi := ⟨some 51, _, _, _, _, _⟩) (v := ?_) rfl (by kernel_rfl) (by kernel_rfl) (by kernel_rfl) (fun _ _ _ h => h) (Or.inl ⟨by rfl, ?_⟩) hH ?_
        rotate_left
        · intro W _; go_simp; with_reducible rfl
        (try simp only [Act.put, List.setIfInBounds_toArray, List.set_cons_zero, List.set_cons_succ])
        refine wpAnyH_done (by kernel_rfl) ?_ _
        have HB4 := Lib.hid hH.1
        clear hH KA
        have HW4 := Lib.hid (hw.out.trans (HB4.out.mono hw.out.size))
        have HP4 := Lib.hid (heap_call HB4.out hP.out)
        have HQ4 := Lib.hid (heap_call HB4.out hQ.out)
        clear HB4
        go_wp2
        go_roundw
        case rel => exact ⟨j + 1, by go_num, by omega, Lib.hid (by rw [List.take_succ_eq_append_getElem hlt, List.all_append, hall.out, HY.out]; simp [HK.out]), HW4, HP4, HQ4⟩
        case measure => simp [intOf]; omega
    · obtain rfl : j = xs.length := by omega
      have HALL : Hid (xs.all (ownOk n l s) = true) := Lib.hid (by have := hall.out; rwa [List.take_length] at this)
      have HOK : Hid (ok = true) := Lib.hid (by rw [HR.out, HALL.out]; simp [*])
      have HYW : Hid (ys = way xs o o c) := Lib.hid (by rw [HYS.out, HOK.out]; rfl)
      obtain ⟨hn', hn64, hno, hho, hal⟩ := HPT.out HOK.out
      have HALX := Lib.hid hal
      have HNN := Lib.hid hn'
      have HNO := Lib.hid hno
      have HHO := Lib.hid hho
      have hxl : xs.length ≤ 64 := by omega
      have HO0 : Hid (0 ≤ o ∧ o < xs.length) := Lib.hid (by simp [nodeOk] at hno; omega)
      obtain ⟨og, hog⟩ := Int.eq_ofNat_of_zero_le HO0.out.1
      clear hal hn' hno hho hn64 hall HR HYS HPT e1 hn HRT
      subst hog
      have q3 : wr.cell? ⟨w.heap.size + 1, 3, none⟩ = some (.int .i64 (og : Int)) := cell_of hQ.out 3
      have q4 : wr.cell? ⟨w.heap.size + 1, 4, none⟩ = some (.int .i64 c) := cell_of hQ.out 4
      go_wp2_with fail
      go_quiet (fail)
      go_wp2_with fail
      have HW0 := Lib.hid (below_drewN hw.out nq)
      have HP0 : Hid ((wr.drewN nq).heap[w.heap.size]? = some (.cells #[.int .i64 n, .int .i64 l, .int .i64 s] 23)) := hP
      have HQ0 : Hid ((wr.drewN nq).heap[w.heap.size + 1]? = some (.cells #[.bool has, .int .i64 k, .int .i64 h, .int .i64 (og : Int), .int .i64 c] 27)) := hQ
      clear q3 q4
      go_loopw [9, 10, 11, 12] (fun out me c' t wr => ∃ (pre : List Ow) (k' : Nat) (h' : Int), me = .int .i64 k' ∧ c' = .int .i64 h' ∧ t = .int .i64 (pre.length : Int) ∧ pre.length ≤ 65 ∧ k' < xs.length ∧ Hid (hopOk h' = true) ∧ Hid (Came xs og og c pre k' h') ∧ wr.ownsRow w.heap.size 25 2 out pre.length (flat pre) ∧ Hid (Below w.heap.size w wr) ∧ Hid (wr.heap[w.heap.size]? = some (.cells #[.int .i64 n, .int .i64 l, .int .i64 s] 23)) ∧ Hid (wr.heap[w.heap.size + 1]? = some (.cells #[.bool has, .int .i64 k, .int .i64 h, .int .i64 (og : Int), .int .i64 c] 27)))
        (fun _ _ _ t _ => 65 - (intOf t).toNat)
      case atStart => exact ⟨[], og, c, rfl, rfl, rfl, by simp, by have := HO0.out; omega, HHO, Came.start, World.ownsRow_nil _ _ _ _, HW0, HP0, HQ0⟩
      case round =>
        obtain ⟨pre, k', h', rfl, rfl, rfl, hp65, hk', HH', HC', hrow, HW', HP', HQ'⟩ := hrel
        have hpl : pre.length < 65 := by
          have h1 := way_le xs og og c
          rw [HC'.out.way, List.length_append] at h1
          omega
        obtain ⟨ao2, cp2, e2, -, hc2⟩ := HO.out.below HW'.out (Nat.le_refl _)
        cases e2
        obtain ⟨b, off, rfl, hcell⟩ := hc2 (by omega)
        obtain ⟨d0, d1⟩ := hcell k' hk'
        have hg := on_goes (s := s) (l := l) hk' HNN.out HNO.out HH'.out (HALX.out _ (List.getElem_mem hk'))
        have HONX := Lib.hid (HON.out k' ⟨false, xs[k'], og, h'⟩)
        have hown := own_parts (HALX.out _ (List.getElem_mem hk'))
        clear hcell hc2
        generalize hx : xs[k'] = oo at d0 d1 hg HONX hown
        have HXK := Lib.hid hx
        obtain ⟨nd, hp⟩ := oo
        generalize onR n l s k' ⟨false, ⟨nd, hp⟩, og, h'⟩ = r at hg HONX
        have HG := Lib.hid hg
        have HOW := Lib.hid hown
        have HROW := Lib.hid hrow
        have KA : Hid (∀ w' : World, Below wr.heap.size wr w' → (fun w' => Below wr.heap.size wr w' ∧ w'.cell? ⟨w.heap.size, 0, none⟩ = some (.int .i64 n) ∧ w'.cell? ⟨w.heap.size, 1, none⟩ = some (.int .i64 l) ∧ w'.cell? ⟨w.heap.size, 2, none⟩ = some (.int .i64 s) ∧ w'.cell? ⟨w.heap.size + 1, 3, none⟩ = some (.int .i64 (og : Int)) ∧ w'.cell? ⟨b, off + k' * 2, none⟩ = some (.int .i64 nd) ∧ w'.cell? ⟨b, off + k' * 2 + 1, none⟩ = some (.int .i64 hp)) w') := fun w' hb => ⟨hb, keepC hb (cell_of HP'.out 0), keepC hb (cell_of HP'.out 1), keepC hb (cell_of HP'.out 2), keepC hb (cell_of HQ'.out 3), keepC hb d0, keepC hb d1⟩
        clear hg hown hx d0 d1 hrow
        have hk0 : (0 : Int) ≤ (k' : Int) := by omega
        have hk1 : (k' : Int) < (xs.length : Int) := by omega
        go_upto_region 13 with fail
        go_cut [13, 14] (fun p q wx => ∃ g : Nat, p = .pointer (some ⟨g, 0, none⟩) ∧ q = .bool r.2.1 ∧ wx.heap[g]? = some (.cells #[.int .i64 r.1.node, .int .i64 r.1.hop] 25) ∧ wr.heap.size ≤ g ∧ Below wr.heap.size wr wx)
        case first =>
          refine wp_region_held_drew (S := fun w' => Below wr.heap.size wr w' ∧ w'.cell? ⟨w.heap.size, 0, none⟩ = some (.int .i64 n) ∧ w'.cell? ⟨w.heap.size, 1, none⟩ = some (.int .i64 l) ∧ w'.cell? ⟨w.heap.size, 2, none⟩ = some (.int .i64 s) ∧ w'.cell? ⟨w.heap.size + 1, 3, none⟩ = some (.int .i64 (og : Int)) ∧ w'.cell? ⟨b, off + k' * 2, none⟩ = some (.int .i64 nd) ∧ w'.cell? ⟨b, off + k' * 2 + 1, none⟩ = some (.int .i64 hp)) (by kernel_rfl) (KA.out _ (Below.refl _ _).drew) (fun hH => ?_)
          refine wpAnyH_take (i := 0) (oi := ⟨some 61, _, _, _, _, _⟩) (v := ?_) rfl (by kernel_rfl) (by kernel_rfl) (by kernel_rfl) (fun _ _ _ h => h) (Or.inl ⟨by rfl, ?_⟩) hH ?_
          rotate_left
          · intro W hSW; go_split_ands; go_simp; with_reducible rfl
          (try simp only [Act.put, List.setIfInBounds_toArray, List.set_cons_zero, List.set_cons_succ])
          refine wpAnyH_take (i := 1) (oi := ⟨some 62, _, _, _, _, _⟩) (v := ?_) rfl (by kernel_rfl) (by kernel_rfl) (by kernel_rfl) (fun _ _ _ h => h) (Or.inl ⟨by rfl, ?_⟩) hH ?_
          rotate_left
          · intro W _; go_simp; with_reducible rfl
          (try simp only [Act.put, List.setIfInBounds_toArray, List.set_cons_zero, List.set_cons_succ])
          refine wpAnyH_take (i := 2) (oi := ⟨some 63, _, _, _, _, _⟩) (v := ?_) rfl (by kernel_rfl) (by kernel_rfl) (by kernel_rfl) (fun _ _ _ h => h) (Or.inl ⟨by rfl, ?_⟩) hH ?_
          rotate_left
          · intro W _; go_simp; with_reducible rfl
          (try simp only [Act.put, List.setIfInBounds_toArray, List.set_cons_zero, List.set_cons_succ])
          refine wpAnyH_take (i := 3) (oi := ⟨some 64, _, _, _, _, _⟩) (v := ?_) rfl (by kernel_rfl) (by kernel_rfl) (by kernel_rfl) (fun _ _ _ h => h) (Or.inl ⟨by rfl, ?_⟩) hH ?_
          rotate_left
          · intro W _; go_simp; with_reducible rfl
          (try simp only [Act.put, List.setIfInBounds_toArray, List.set_cons_zero, List.set_cons_succ])
          refine wpAnyH_take (i := 4) (oi := ⟨some 65, _, _, _, _, _⟩) (v := ?_) rfl (by kernel_rfl) (by kernel_rfl) (by kernel_rfl) (fun _ _ _ h => h) (Or.inl ⟨by rfl, ?_⟩) hH ?_
          rotate_left
          · intro W _; go_simp; with_reducible rfl
          (try simp only [Act.put, List.setIfInBounds_toArray, List.set_cons_zero, List.set_cons_succ])
          refine wpAnyH_take (i := 5) (oi := ⟨some 66, _, _, _, _, _⟩) (v := ?_) rfl (by kernel_rfl) (by kernel_rfl) (by kernel_rfl) (fun _ _ _ h => h) (Or.inl ⟨by rfl, ?_⟩) hH ?_
          rotate_left
          · intro W hSW; go_split_ands; go_simp; with_reducible rfl
          (try simp only [Act.put, List.setIfInBounds_toArray, List.set_cons_zero, List.set_cons_succ])
          refine wpAnyH_take (i := 6) (oi := ⟨some 67, _, _, _, _, _⟩) (v := ?_) rfl (by kernel_rfl) (by kernel_rfl) (by kernel_rfl) (fun _ _ _ h => h) (Or.inl ⟨by rfl, ?_⟩) hH ?_
          rotate_left
          · intro W _; go_simp; with_reducible rfl
          (try simp only [Act.put, List.setIfInBounds_toArray, List.set_cons_zero, List.set_cons_succ])
          refine wpAnyH_take (i := 7) (oi := ⟨some 68, _, _, _, _, _⟩) (v := ?_) rfl (by kernel_rfl) (by kernel_rfl) (by kernel_rfl) (fun _ _ _ h => h) (Or.inl ⟨by rfl, ?_⟩) hH ?_
          rotate_left
          · intro W hSW; go_split_ands; go_simp; with_reducible rfl
          (try simp only [Act.put, List.setIfInBounds_toArray, List.set_cons_zero, List.set_cons_succ])
          refine wpAnyH_take (i := 8) (oi := ⟨some 69, _, _, _, _, _⟩) (v := ?_) rfl (by kernel_rfl) (by kernel_rfl) (by kernel_rfl) (fun _ _ _ h => h) (Or.inl ⟨by rfl, ?_⟩) hH ?_
          rotate_left
          · intro W _; go_simp; with_reducible rfl
          (try simp only [Act.put, List.setIfInBounds_toArray, List.set_cons_zero, List.set_cons_succ])
          refine wpAnyH_take (i := 9) (oi := ⟨some 70, _, _, _, _, _⟩) (v := ?_) rfl (by kernel_rfl) (by kernel_rfl) (by kernel_rfl) (fun _ _ _ h => h) (Or.inl ⟨by rfl, ?_⟩) hH ?_
          rotate_left
          · intro W _; go_simp; with_reducible rfl
          (try simp only [Act.put, List.setIfInBounds_toArray, List.set_cons_zero, List.set_cons_succ])
          refine wpAnyH_ready (rs := [10, 15]) (by kernel_rfl) (by simp) ?_
          refine AllReadyH.cons (o := ⟨some 71, _, _, _, _, _⟩) rfl (fun K hK => ?_) (AllReadyH.cons (o := ⟨some 13, _, _, _, _, _⟩) rfl (fun K hK => ?_) (AllReadyH.nil))
          · go_simp
            refine (HONX.out _).mono ?_
            rintro e w5 ⟨rfl, hb⟩
            first
              | (have bx : w5.heap[wr.heap.size]? = some (.cells #[.int .i64 0, .int .i64 0] 25) := heap_call hb (heap_new (W := wr) (o := .cells #[.int .i64 0, .int .i64 0] 25) rfl)
                 have bc0 : w5.cell? ⟨wr.heap.size, 0, none⟩ = some (.int .i64 0) := cell_of bx 0
                 have bc1 : w5.cell? ⟨wr.heap.size, 1, none⟩ = some (.int .i64 0) := cell_of bx 1
                 have bf0 := free_of bx 0
                 have bf1 := free_of bx 1)
              | skip
            refine hK.out _ _ (KA.out _ (by first | exact (below_new _).drew | exact hH.1.trans (hb.mono hH.1.size) | exact hH.1.alloc hH.1.size _ | exact (hH.1.setCell (Nat.le_refl _) _).setCell (Nat.le_refl _) _ | exact below_realloc (o := .cells #[.int .i64 0, .int .i64 0] 25) hH.1 (by have hs := hb.size; simpa using hs))) (fun hH => ?_)
            clear hK K
            (try simp only [Act.put, List.setIfInBounds_toArray, List.set_cons_zero, List.set_cons_succ])
            refine wpAnyH_take (i := 11) (oi := ⟨some 60, _, _, _, _, _⟩) (v := ?_) rfl (by kernel_rfl) (by kernel_rfl) (by kernel_rfl) (fun _ _ _ h => h) (Or.inl ⟨by rfl, ?_⟩) hH ?_
            rotate_left
            · intro W _; go_simp; with_reducible rfl
            (try simp only [Act.put, List.setIfInBounds_toArray, List.set_cons_zero, List.set_cons_succ])
            refine wpAnyH_take (i := 12) (oi := ⟨some 72, _, _, _, _, _⟩) (v := ?_) rfl (by kernel_rfl) (by kernel_rfl) (by kernel_rfl) (fun _ _ _ h => h) (Or.inl ⟨by rfl, ?_⟩) hH ?_
            rotate_left
            · intro W _; go_simp; with_reducible rfl
            (try simp only [Act.put, List.setIfInBounds_toArray, List.set_cons_zero, List.set_cons_succ])
            refine wpAnyH_take (i := 13) (oi := ⟨some 73, _, _, _, _, _⟩) (v := ?_) rfl (by kernel_rfl) (by kernel_rfl) (by kernel_rfl) (fun _ _ _ h => h) (Or.inl ⟨by rfl, ?_⟩) hH ?_
            rotate_left
            · intro W _; go_simp; with_reducible rfl
            (try simp only [Act.put, List.setIfInBounds_toArray, List.set_cons_zero, List.set_cons_succ])
            refine wpAnyH_take (i := 14) (oi := ⟨some 74, _, _, _, _, _⟩) (v := ?_) rfl (by kernel_rfl) (by kernel_rfl) (by kernel_rfl) (fun _ _ _ h => h) (Or.inl ⟨by rfl, ?_⟩) hH ?_
            rotate_left
            · intro W _; go_simp; with_reducible rfl
            (try simp only [Act.put, List.setIfInBounds_toArray, List.set_cons_zero, List.set_cons_succ])
            refine wpAnyH_ready (rs := [15]) (by kernel_rfl) (by simp) ?_
            refine AllReadyH.cons (o := ⟨some 13, _, _, _, _, _⟩) rfl (fun K hK => ?_) (AllReadyH.nil)
            go_simp
            refine hK.out _ _ (KA.out _ (by first | exact (below_new _).drew | exact hH.1.trans (hb.mono hH.1.size) | exact hH.1.alloc hH.1.size _ | exact (hH.1.setCell (Nat.le_refl _) _).setCell (Nat.le_refl _) _ | exact below_realloc (o := .cells #[.int .i64 0, .int .i64 0] 25) hH.1 (by have hs := hb.size; simpa using hs))) (fun hH => ?_)
            clear hK K
            (try simp only [Act.put, List.setIfInBounds_toArray, List.set_cons_zero, List.set_cons_succ])
            refine wpAnyH_ready (rs := [16]) (by kernel_rfl) (by simp) ?_
            refine AllReadyH.cons (o := ⟨none, _, _, _, _, _⟩) rfl (fun K hK => ?_) (AllReadyH.nil)
            go_simp
            refine hK.out _ _ (KA.out _ (by first | exact (below_new _).drew | exact hH.1.trans (hb.mono hH.1.size) | exact hH.1.alloc hH.1.size _ | exact (hH.1.setCell (Nat.le_refl _) _).setCell (Nat.le_refl _) _ | exact below_realloc (o := .cells #[.int .i64 0, .int .i64 0] 25) hH.1 (by have hs := hb.size; simpa using hs))) (fun hH => ?_)
            clear hK K
            (try simp only [Act.put, List.setIfInBounds_toArray, List.set_cons_zero, List.set_cons_succ])
            refine wpAnyH_take (i := 17) (oi := ⟨some 14, _, _, _, _, _⟩) (v := ?_) rfl (by kernel_rfl) (by kernel_rfl) (by kernel_rfl) (fun _ _ _ h => h) (Or.inl ⟨by rfl, ?_⟩) hH ?_
            rotate_left
            · intro W _; go_simp; with_reducible rfl
            (try simp only [Act.put, List.setIfInBounds_toArray, List.set_cons_zero, List.set_cons_succ])
            refine wpAnyH_take (i := 18) (oi := ⟨some 15, _, _, _, _, _⟩) (v := ?_) rfl (by kernel_rfl) (by kernel_rfl) (by kernel_rfl) (fun _ _ _ h => h) (Or.inl ⟨by rfl, ?_⟩) hH ?_
            rotate_left
            · intro W _; go_simp; with_reducible rfl
            (try simp only [Act.put, List.setIfInBounds_toArray, List.set_cons_zero, List.set_cons_succ])
            refine wpAnyH_done (by kernel_rfl) ?_ _
            go_wp2_with fail
            go_meet
            first
              | exact ⟨w5.heap.size, rfl, rfl, heap_new rfl, by have hs := hb.size; simpa using hs, hH.1⟩
              | exact ⟨wr.heap.size, rfl, rfl, heap_set (heap_set bx), Nat.le_refl _, hH.1⟩
          · go_simp
            refine hK.out _ _ (KA.out _ (by first | exact (below_new _).drew | exact hH.1.trans (hb.mono hH.1.size) | exact hH.1.alloc hH.1.size _ | exact (hH.1.setCell (Nat.le_refl _) _).setCell (Nat.le_refl _) _ | exact below_realloc (o := .cells #[.int .i64 0, .int .i64 0] 25) hH.1 (by have hs := hb.size; simpa using hs))) (fun hH => ?_)
            clear hK K
            (try simp only [Act.put, List.setIfInBounds_toArray, List.set_cons_zero, List.set_cons_succ])
            refine wpAnyH_ready (rs := [10]) (by kernel_rfl) (by simp) ?_
            refine AllReadyH.cons (o := ⟨some 71, _, _, _, _, _⟩) rfl (fun K hK => ?_) (AllReadyH.nil)
            go_simp
            refine (HONX.out _).mono ?_
            rintro e w5 ⟨rfl, hb⟩
            first
              | (have bx : w5.heap[wr.heap.size]? = some (.cells #[.int .i64 0, .int .i64 0] 25) := heap_call hb (heap_new (W := wr) (o := .cells #[.int .i64 0, .int .i64 0] 25) rfl)
                 have bc0 : w5.cell? ⟨wr.heap.size, 0, none⟩ = some (.int .i64 0) := cell_of bx 0
                 have bc1 : w5.cell? ⟨wr.heap.size, 1, none⟩ = some (.int .i64 0) := cell_of bx 1
                 have bf0 := free_of bx 0
                 have bf1 := free_of bx 1)
              | skip
            refine hK.out _ _ (KA.out _ (by first | exact (below_new _).drew | exact hH.1.trans (hb.mono hH.1.size) | exact hH.1.alloc hH.1.size _ | exact (hH.1.setCell (Nat.le_refl _) _).setCell (Nat.le_refl _) _ | exact below_realloc (o := .cells #[.int .i64 0, .int .i64 0] 25) hH.1 (by have hs := hb.size; simpa using hs))) (fun hH => ?_)
            clear hK K
            (try simp only [Act.put, List.setIfInBounds_toArray, List.set_cons_zero, List.set_cons_succ])
            refine wpAnyH_take (i := 11) (oi := ⟨some 60, _, _, _, _, _⟩) (v := ?_) rfl (by kernel_rfl) (by kernel_rfl) (by kernel_rfl) (fun _ _ _ h => h) (Or.inl ⟨by rfl, ?_⟩) hH ?_
            rotate_left
            · intro W _; go_simp; with_reducible rfl
            (try simp only [Act.put, List.setIfInBounds_toArray, List.set_cons_zero, List.set_cons_succ])
            refine wpAnyH_take (i := 12) (oi := ⟨some 72, _, _, _, _, _⟩) (v := ?_) rfl (by kernel_rfl) (by kernel_rfl) (by kernel_rfl) (fun _ _ _ h => h) (Or.inl ⟨by rfl, ?_⟩) hH ?_
            rotate_left
            · intro W _; go_simp; with_reducible rfl
            (try simp only [Act.put, List.setIfInBounds_toArray, List.set_cons_zero, List.set_cons_succ])
            refine wpAnyH_take (i := 13) (oi := ⟨some 73, _, _, _, _, _⟩) (v := ?_) rfl (by kernel_rfl) (by kernel_rfl) (by kernel_rfl) (fun _ _ _ h => h) (Or.inl ⟨by rfl, ?_⟩) hH ?_
            rotate_left
            · intro W _; go_simp; with_reducible rfl
            (try simp only [Act.put, List.setIfInBounds_toArray, List.set_cons_zero, List.set_cons_succ])
            refine wpAnyH_take (i := 14) (oi := ⟨some 74, _, _, _, _, _⟩) (v := ?_) rfl (by kernel_rfl) (by kernel_rfl) (by kernel_rfl) (fun _ _ _ h => h) (Or.inl ⟨by rfl, ?_⟩) hH ?_
            rotate_left
            · intro W _; go_simp; with_reducible rfl
            (try simp only [Act.put, List.setIfInBounds_toArray, List.set_cons_zero, List.set_cons_succ])
            refine wpAnyH_ready (rs := [16]) (by kernel_rfl) (by simp) ?_
            refine AllReadyH.cons (o := ⟨none, _, _, _, _, _⟩) rfl (fun K hK => ?_) (AllReadyH.nil)
            go_simp
            refine hK.out _ _ (KA.out _ (by first | exact (below_new _).drew | exact hH.1.trans (hb.mono hH.1.size) | exact hH.1.alloc hH.1.size _ | exact (hH.1.setCell (Nat.le_refl _) _).setCell (Nat.le_refl _) _ | exact below_realloc (o := .cells #[.int .i64 0, .int .i64 0] 25) hH.1 (by have hs := hb.size; simpa using hs))) (fun hH => ?_)
            clear hK K
            (try simp only [Act.put, List.setIfInBounds_toArray, List.set_cons_zero, List.set_cons_succ])
            refine wpAnyH_take (i := 17) (oi := ⟨some 14, _, _, _, _, _⟩) (v := ?_) rfl (by kernel_rfl) (by kernel_rfl) (by kernel_rfl) (fun _ _ _ h => h) (Or.inl ⟨by rfl, ?_⟩) hH ?_
            rotate_left
            · intro W _; go_simp; with_reducible rfl
            (try simp only [Act.put, List.setIfInBounds_toArray, List.set_cons_zero, List.set_cons_succ])
            refine wpAnyH_take (i := 18) (oi := ⟨some 15, _, _, _, _, _⟩) (v := ?_) rfl (by kernel_rfl) (by kernel_rfl) (by kernel_rfl) (fun _ _ _ h => h) (Or.inl ⟨by rfl, ?_⟩) hH ?_
            rotate_left
            · intro W _; go_simp; with_reducible rfl
            (try simp only [Act.put, List.setIfInBounds_toArray, List.set_cons_zero, List.set_cons_succ])
            refine wpAnyH_done (by kernel_rfl) ?_ _
            go_wp2_with fail
            go_meet
            first
              | exact ⟨w5.heap.size, rfl, rfl, heap_new rfl, by have hs := hb.size; simpa using hs, hH.1⟩
              | exact ⟨wr.heap.size, rfl, rfl, heap_set (heap_set bx), Nat.le_refl _, hH.1⟩
        case rest =>
          obtain ⟨g, rfl, rfl, hbox, hge, hbw⟩ := hcut
          have HBX := Lib.hid hbox
          have HWX := Lib.hid (HW'.out.trans (hbw.mono HW'.out.size))
          have HPX := Lib.hid (heap_call hbw HP'.out)
          have HQX := Lib.hid (heap_call hbw HQ'.out)
          have HRX := Lib.hid (Row.below HROW.out hbw)
          have hgl := heap_lt hbox
          have HBW := Lib.hid hbw
          clear hbox hbw KA HONX
          cases hgo : goes xs og k' h' with
          | none =>
            have hr := HG.out
            rw [hgo] at hr
            subst hr
            have HWE : Hid (ys = pre) := Lib.hid (by rw [HYW.out, HC'.out.way, way_none hgo, List.append_nil])
            clear hgo HG
            go_wp2
            go_ret2
            rw [HOK.out, HWE.out]
            exact ⟨⟨_, rfl, HRX.out⟩, HWX.out⟩
          | some oo =>
            have hr := HG.out
            rw [hgo] at hr
            obtain ⟨hm1, hm2, -, -, hm3⟩ := goes_some hgo
            have ho : oo = ⟨nd, hp⟩ := by
              rw [Int.toNat_natCast, List.getElem?_eq_getElem hk', HXK.out] at hm3
              exact (Option.some.inj hm3).symm
            subst ho
            subst hr
            obtain ⟨hw1, hw2, hw3⟩ := HOW.out
            obtain ⟨k2, hk2⟩ := Int.eq_ofNat_of_zero_le hw1
            (try simp only at hk2)
            subst hk2
            have HC2 : Hid (Came xs og og c (pre ++ [⟨(k2 : Int), hp⟩]) k2 hp) := Lib.hid (HC'.out.step hgo)
            have HK2 : Hid (k2 < xs.length ∧ hopOk hp = true) := Lib.hid ⟨by have := HNN.out; (try simp at hw2); omega, hw3⟩
            have c0 := cell_of HBX.out 0
            have c1 := cell_of HBX.out 1
            simp only [List.getElem?_toArray, List.getElem?_cons_zero, List.getElem?_cons_succ] at c0 c1
            have hsx := HWX.out.size
            clear hgo HG hm1 hm2 hm3 hw1 hw2 hw3 HOW HXK
            go_wp2_with (at_builtin; refine wpList_append_owns rfl (.tmp 77) (.tmp 79) rfl w.heap.size _ _ _ rfl (HRX.out.alloc _) _ [⟨(k2 : Int), hp⟩] rfl (owns_one (heap_new rfl)) (fun m c h => by cases h) (by simp; omega) (by simp; omega) ?_)
            intro v' w6 h1 h2
            have hb6 := (HWX.out.alloc hsx (.cells #[.int .i64 (k2 : Int), .int .i64 hp] 25)).grown h2 (by simp; omega) (fun k hk => (HRX.out.lt k hk).1)
            have HB6 := Lib.hid hb6
            have HP6 : Hid (w6.heap[w.heap.size]? = _) := Lib.hid ((h2.block w.heap.size (by have := heap_lt HPX.out; simp; omega) (fun e => own_not HRX.out HPX.out (by decide) e.symm)).trans (heap_old HPX.out))
            have HQ6 : Hid (w6.heap[w.heap.size + 1]? = _) := Lib.hid ((h2.block (w.heap.size + 1) (by have := heap_lt HQX.out; simp; omega) (fun e => own_not HRX.out HQX.out (by decide) e.symm)).trans (heap_old HQX.out))
            have HX6 : Hid (w6.heap[g]? = _) := Lib.hid ((h2.block g (by simp; omega) (fun e => by have := (HROW.out.lt g e.symm).2; omega)).trans (heap_old HBX.out))
            have HR6 : Hid (w6.ownsRow w.heap.size 25 2 v' (pre ++ [(⟨(k2 : Int), hp⟩ : Ow)]).length (flat (pre ++ [⟨(k2 : Int), hp⟩]))) := Lib.hid (by rw [flat_append, List.length_append]; exact h1)
            have e0 : w6.cell? ⟨g, 0, none⟩ = some (.int .i64 (k2 : Int)) := cell_of HX6.out 0
            have e1 : w6.cell? ⟨g, 1, none⟩ = some (.int .i64 hp) := cell_of HX6.out 1
            clear h1 h2 hb6 c0 c1
            go_wp2_with fail
            go_quiet (fail)
            go_wp2
            go_roundw
            case rel => exact ⟨pre ++ [⟨(k2 : Int), hp⟩], k2, hp, rfl, rfl, by simp, by simp; omega, HK2.out.1, HK2.out.2, HC2, Row.below HR6.out (below_drewN (Below.refl _ _) _), below_drewN HB6.out _, HP6, HQ6⟩
            case measure => simp [intOf]; omega
end Go.Proofs.Ytoanpfbdhkgncaa
