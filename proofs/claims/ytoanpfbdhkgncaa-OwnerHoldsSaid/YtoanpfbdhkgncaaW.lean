/-
  PROVED: The walk of the law OwnerHolds. CONDITIONS: the lists came in.
-/
import Derived.Test.YtoanpfbdhkgncaaU
import Derived.Test.YtoanpfbdhkgncaaV
namespace Go.Proofs.Ytoanpfbdhkgncaa
open Go.RowKit
set_option maxRecDepth 100000
set_option maxHeartbeats 4000000
theorem made_flat (n : Nat) : (madeCells (Value.agg #[.int .i64 0, .int .i64 0]).cells (n * 2)).toList = flat (List.replicate n gz) := by
  apply List.ext_getElem?
  intro j
  by_cases hj : j < n * 2
  · have h1 := flat_get (List.replicate n gz) (j / 2) (j % 2) (by simp; omega) (by omega)
    rw [show j / 2 * 2 + j % 2 = j by omega] at h1
    rw [h1, List.getElem_replicate]
    have h4 : j % 2 < 2 := by omega
    rcases (show j % 2 = 0 ∨ j % 2 = 1 by omega) with h | h <;> simp [madeCells, Value.cells, hj, Ow.cells, gz, h]
  · rw [List.getElem?_eq_none (by simp [madeCells]; omega), List.getElem?_eq_none (by rw [flat_length]; simp; omega)]
theorem wpList_make_owns {w : World} {ops : Array Oper} {rest : List Oper} {o : Oper} {a : Act} {Q : Exit → Act → World → Prop} (hgd : o.guard = none) (l c : Operand) (hop : o.op = Op.makeSlice 44 l c) (n : Nat) (hl : a.eval l = .int .i64 (n : Int)) (hc : a.eval c = .int .i64 (n : Int)) (hn : n ≤ 1000) (base : Nat) (hb : base ≤ w.heap.size) (g : Nat) (hg : w.heap.size = g)
    (hK : ∀ w', w'.ownsRow base 25 2 (.slice (some ⟨g, 0, none⟩) n n) n (flat (List.replicate n gz)) → w.grownBy w' none → wpList Try.prog ops Q rest (a.put o.dst (.slice (some ⟨g, 0, none⟩) n n)) w') : wpList Try.prog ops Q (o :: rest) a w :=
  wpList_plain hgd fun _ hK' => by
    subst hg
    obtain ⟨i0, hi, hz0, hz1, hz2⟩ := info_parts Try.info25
    obtain ⟨w', hrun, r1, r2⟩ := run_make_full (P := Try.prog) w base 44 25 i0 _ 2 Try.underlying44 hi hz0 hz1 .i64 .i64 n (by rw [hz2]; omega) (by unfold maxLen; omega) hb
    rw [made_flat] at r1
    unfold Oper.wp
    simp [execOp, hop, hl, hc, hrun, Result.andThen]
    exact hK' _ _ (hK _ r1 r2)
theorem flat_set : ∀ (l : List Ow) (k : Nat) (x : Ow), k < l.length → ((flat l).set (k * 2) (.int .i64 x.node)).set (k * 2 + 1) (.int .i64 x.hop) = flat (l.set k x)
  | y :: l, 0, x, _ => rfl
  | y :: l, k + 1, x, h => by
    have ih := flat_set l k x (by simpa using h)
    show (((.int .i64 y.node :: .int .i64 y.hop :: flat l : List Value)).set ((k + 1) * 2) _).set ((k + 1) * 2 + 1) _ = .int .i64 y.node :: .int .i64 y.hop :: flat (l.set k x)
    rw [← ih, show (k + 1) * 2 = (k * 2 + 1) + 1 by omega]
    rfl
theorem row_put {w : World} {B g n cp : Nat} {l : List Ow} (h : w.ownsRow B 25 2 (.slice (some ⟨g, 0, none⟩) n cp) n (flat l)) (k : Nat) (hk : k < l.length) (x : Ow) :
    ((w.setCell ⟨g, k * 2, none⟩ (.int .i64 x.node)).setCell ⟨g, k * 2 + 1, none⟩ (.int .i64 x.hop)).ownsRow B 25 2 (.slice (some ⟨g, 0, none⟩) n cp) n (flat (l.set k x)) := by
  rw [← flat_set l k x hk]
  exact ((h.stored (k * 2) (.int .i64 x.node)).1.stored (k * 2 + 1) (.int .i64 x.hop)).1
theorem row_frozen {w : World} {B g cp n : Nat} {xs : List Value} (h : w.ownsRow B 25 2 (.slice (some ⟨g, 0, none⟩) n cp) n xs) (o : Nat) : w.frozen? ⟨g, o, none⟩ = false := by
  obtain ⟨h1, ⟨h2, h3⟩ | ⟨g', cap, cur, ha, h4, h5, h6⟩⟩ := h
  · cases h2
  · cases ha
    simp [World.frozen?, h5]
theorem Row3.below {w w' : World} {B n : Nat} {v : Value} {xs : List Value} (h : w.ownsRow B 3 1 v n xs) (hb : Below w.heap.size w w') : w'.ownsRow B 3 1 v n xs :=
  h.kept (row := none) (grown_of_below hb) (by by_cases h : v.ownBlock = none; exact .inl h; exact .inr h)
theorem own_not3 {w : World} {B k n : Nat} {v : Value} {xs : List Value} {c : Array Value} {t : TypeId} (h : w.ownsRow B 3 1 v n xs) (hk : w.heap[k]? = some (.cells c t)) (ht : t ≠ 3) : v.ownBlock ≠ some k := by
  intro e
  obtain ⟨h1, ⟨rfl, rfl⟩ | ⟨g, cap, cur, rfl, h4, h5, h6⟩⟩ := h
  · cases e
  · simp only [Value.ownBlock] at e
    cases e
    rw [h5] at hk
    cases hk
    exact ht rfl
theorem row_block {w : World} {B n g cp : Nat} {xs : List Value} (h : w.ownsRow B 25 2 (.slice (some ⟨g, 0, none⟩) n cp) n xs) : ∃ c, w.heap[g]? = some (.cells c 25) := by
  obtain ⟨h1, ⟨h2, h3⟩ | ⟨g', cap, cur, ha, h4, h5, h6⟩⟩ := h
  · cases h2
  · cases ha
    exact ⟨_, h5⟩
theorem below_set {B g : Nat} {w W : World} (h : Below B w W) (hg : B ≤ g) (i j : Nat) (u v : Value) : Below B w ((W.setCell ⟨g, i, none⟩ u).setCell ⟨g, j, none⟩ v) := (h.setCell hg _).setCell hg _
theorem heap_far {W : World} {k g : Nat} {x : Obj} (h : W.heap[k]? = some x) (hg : k ≠ g) (i j : Nat) (u v : Value) : ((W.setCell ⟨g, i, none⟩ u).setCell ⟨g, j, none⟩ v).heap[k]? = some x :=
  (Below.heap_setCell _ _ _ _ (by exact hg)).trans ((Below.heap_setCell _ _ _ _ (by exact hg)).trans h)
theorem good_asked {N og : Nat} {W : List Int} {L : List Ow} (hN : 1 ≤ N) (hN2 : N ≤ 64) (hog : og < N) (hW : W.length ≤ 61) (hv : ∀ v ∈ W, 0 ≤ v ∧ v < (N : Int)) (hg : Good N W L) : askedOk N 1 1 L ⟨false, ⟨0, 0⟩, og, 0⟩ = true := by
  have hs : shapeOk N 1 1 = true := by simp [shapeOk]; omega
  simp only [askedOk, hs, Bool.true_and, Bool.and_eq_true, decide_eq_true_eq, List.all_eq_true]
  refine ⟨⟨⟨by simp [nodeOk]; omega, by decide⟩, by rw [hg.1]⟩, fun o ho => ?_⟩
  obtain ⟨i, hi, rfl⟩ := List.getElem_of_mem ho
  obtain ⟨q, hq, he⟩ := hg.2 i (by rw [← hg.1]; exact hi)
  rw [getD_of hi] at he
  rw [he]
  have hm : W.getD q 0 ∈ W := by rw [List.getD_eq_getElem?_getD, List.getElem?_eq_getElem hq]; simp
  obtain ⟨h1, h2⟩ := hv _ hm
  simp only [ownOk, hs, Bool.true_and, Bool.and_eq_true, nodeOk, hopOk, decide_eq_true_eq]
  omega
theorem went_head (nodes : Int) : ∀ l, (wentOf nodes l).getD 0 0 = 0 := by
  have key : ∀ (k : Nat) (l : List Int), l.length = k → (wentOf nodes l).getD 0 0 = 0 ∧ 1 ≤ (wentOf nodes l).length := by
    intro k
    induction k with
    | zero => intro l hl; obtain rfl := List.length_eq_zero_iff.1 hl; simp [wentOf]
    | succ k ih =>
      intro l hl
      obtain ⟨t, v, rfl⟩ : ∃ t v, l = t ++ [v] := ⟨l.dropLast, l.getLast (by intro h; subst h; simp at hl), (List.dropLast_concat_getLast _).symm⟩
      obtain ⟨h1, h2⟩ := ih t (by simp at hl; omega)
      rw [wentOf_snoc]
      unfold wentStep
      split
      · refine ⟨?_, by simp⟩
        rw [List.getD_eq_getElem?_getD, List.getElem?_append_left (by omega), ← List.getD_eq_getElem?_getD]
        exact h1
      · exact ⟨h1, h2⟩
  exact fun l => (key l.length l rfl).1
theorem holds_law (a b : Option Addr) (ca cb : Nat) (ways told : List Int) (nodes origin : Int) (w : World) (ha : Ints w (.slice a ways.length ca) ways) (hb : Ints w (.slice b told.length cb) told) :
    Calls Try.prog 7 #[.slice a ways.length ca, .slice b told.length cb, .agg #[.int .i64 nodes, .int .i64 origin]] w fun e w' => e = .returned (.bool true) ∧ Below w.heap.size w w' := by
  have HA := Lib.hid ha
  have HB := Lib.hid hb
  have HW := Lib.hid works_any
  clear ha hb
  by_cases t0 : nodes < 2
  · go_enter Try.func7, Try.ntmps7
    go_wp2
    go_quiet (fail)
    go_wp2_with fail
    refine (HW.out _).mono ?_
    rintro e w1 ⟨rfl, hb⟩
    have HBz := Lib.hid ((below_drewN (below_new (w := w) (.cells #[.int .i64 nodes, .int .i64 origin] 56)) nq).trans (hb.mono (by simp)))
    clear hb
    go_wp2
    go_ret
    exact ⟨rfl, HBz.out⟩
  by_cases t1 : (64 : Int) < nodes
  · go_enter Try.func7, Try.ntmps7
    go_wp2
    go_quiet (fail)
    go_wp2_with fail
    refine (HW.out _).mono ?_
    rintro e w1 ⟨rfl, hb⟩
    have HBz := Lib.hid ((below_drewN (below_new (w := w) (.cells #[.int .i64 nodes, .int .i64 origin] 56)) nq).trans (hb.mono (by simp)))
    clear hb
    go_wp2
    go_ret
    exact ⟨rfl, HBz.out⟩
  by_cases t2 : origin < 0
  · go_enter Try.func7, Try.ntmps7
    go_wp2
    go_quiet (fail)
    go_wp2_with fail
    refine (HW.out _).mono ?_
    rintro e w1 ⟨rfl, hb⟩
    have HBz := Lib.hid ((below_drewN (below_new (w := w) (.cells #[.int .i64 nodes, .int .i64 origin] 56)) nq).trans (hb.mono (by simp)))
    clear hb
    go_wp2
    go_ret
    exact ⟨rfl, HBz.out⟩
  by_cases t3 : nodes ≤ origin
  · go_enter Try.func7, Try.ntmps7
    go_wp2
    go_quiet (fail)
    go_wp2_with fail
    refine (HW.out _).mono ?_
    rintro e w1 ⟨rfl, hb⟩
    have HBz := Lib.hid ((below_drewN (below_new (w := w) (.cells #[.int .i64 nodes, .int .i64 origin] 56)) nq).trans (hb.mono (by simp)))
    clear hb
    go_wp2
    go_ret
    exact ⟨rfl, HBz.out⟩
  by_cases t4 : (60 : Int) < (ways.length : Int)
  · go_enter Try.func7, Try.ntmps7
    go_wp2
    go_quiet (fail)
    go_wp2_with fail
    refine (HW.out _).mono ?_
    rintro e w1 ⟨rfl, hb⟩
    have HBz := Lib.hid ((below_drewN (below_new (w := w) (.cells #[.int .i64 nodes, .int .i64 origin] 56)) nq).trans (hb.mono (by simp)))
    clear hb
    go_wp2
    go_ret
    exact ⟨rfl, HBz.out⟩
  by_cases t5 : (64 : Int) < (told.length : Int)
  · go_enter Try.func7, Try.ntmps7
    go_wp2
    go_quiet (fail)
    go_wp2_with fail
    refine (HW.out _).mono ?_
    rintro e w1 ⟨rfl, hb⟩
    have HBz := Lib.hid ((below_drewN (below_new (w := w) (.cells #[.int .i64 nodes, .int .i64 origin] 56)) nq).trans (hb.mono (by simp)))
    clear hb
    go_wp2
    go_ret
    exact ⟨rfl, HBz.out⟩
  obtain ⟨N, rfl⟩ := Int.eq_ofNat_of_zero_le (a := nodes) (by omega)
  obtain ⟨og, rfl⟩ := Int.eq_ofNat_of_zero_le (a := origin) (by omega)
  have hN1 : 2 ≤ N := by omega
  have hN2 : N ≤ 64 := by omega
  have hog : og < N := by omega
  have hla : ways.length ≤ 60 := by omega
  have hlb : told.length ≤ 64 := by omega
  have b0 : decide ((N : Int) < 2) = false := decide_eq_false (by omega)
  have b1 : decide ((64 : Int) < (N : Int)) = false := decide_eq_false (by omega)
  have b2 : decide ((og : Int) < 0) = false := decide_eq_false (by omega)
  have b3 : decide (N ≤ og) = false := decide_eq_false (by omega)
  have b3' : decide ((N : Int) ≤ (og : Int)) = false := decide_eq_false (by omega)
  have b4 : decide ((60 : Int) < (ways.length : Int)) = false := decide_eq_false (by omega)
  have b5 : decide ((64 : Int) < (told.length : Int)) = false := decide_eq_false (by omega)
  clear t0 t1 t2 t3 t4 t5
  go_enter Try.func7, Try.ntmps7
  go_wp2
  go_quiet (fail)
  generalize hW1 : (w.alloc (.cells #[.int .i64 (N : Int), .int .i64 (og : Int)] 56)).drewN nq = W1
  have HB1 : Hid (Below w.heap.size w W1) := Lib.hid (by rw [← hW1]; exact below_drewN (below_new _) nq)
  have hs1 := HB1.out.size
  clear hW1
  go_wp2_with fail
  have HSH : Hid (((W1.alloc (.cells #[.int .i64 (N : Int), .int .i64 1, .int .i64 1] 23)).alloc (.cells #[.int .i64 0] 3)).heap[W1.heap.size]? = some (.cells #[.int .i64 (N : Int), .int .i64 1, .int .i64 1] 23)) := heap_old (heap_new rfl)
  have HRW : Hid (((W1.alloc (.cells #[.int .i64 (N : Int), .int .i64 1, .int .i64 1] 23)).alloc (.cells #[.int .i64 0] 3)).ownsRow w.heap.size 3 1 (.slice (some ⟨W1.heap.size + 1, 0, none⟩) 1 1) 1 [.int .i64 0]) := Lib.hid (by
    have := World.ownsRow_lit (base := w.heap.size) (e := 3) (size := 1) (W1.alloc (.cells #[.int .i64 (N : Int), .int .i64 1, .int .i64 1] 23)) #[.int .i64 0] 1 (by simp; omega) (by unfold maxLen; omega) rfl
    simpa using this)
  have HB2 : Hid (Below w.heap.size w ((W1.alloc (.cells #[.int .i64 (N : Int), .int .i64 1, .int .i64 1] 23)).alloc (.cells #[.int .i64 0] 3))) := (HB1.out.alloc hs1 _).alloc (by simp; omega) _
  obtain ⟨i0, hi, hz0, hz1, hz2⟩ := info_parts Try.info3
  go_loopw [10, 11] (fun v i wr => ∃ k : Nat, k ≤ ways.length ∧ i = .int .i64 k ∧ wr.ownsRow w.heap.size 3 1 v (wentOf N (ways.take k)).length ((wentOf N (ways.take k)).map (Value.int .i64)) ∧ Hid (Below w.heap.size w wr) ∧ Hid (wr.heap[W1.heap.size]? = some (.cells #[.int .i64 (N : Int), .int .i64 1, .int .i64 1] 23))) (fun _ i _ => ways.length - (intOf i).toNat)
  case atStart => exact ⟨0, Nat.zero_le _, rfl, HRW.out, HB2, HSH⟩
  case round =>
    obtain ⟨k, hk, rfl, hown, HBr, HSr⟩ := hrel
    obtain ⟨hw1, hw2, hw3⟩ := went_facts N (by omega) (ways.take k).length (ways.take k) rfl
    have hw2' : (wentOf N (ways.take k)).length ≤ 61 := by rw [List.length_take] at hw2; omega
    by_cases hlt : k < ways.length
    · have HST : Hid (wentOf N (ways.take (k + 1)) = wentStep N (wentOf N (ways.take k)) ways[k]) := Lib.hid (by rw [List.take_succ_eq_append_getElem hlt, wentOf_snoc])
      obtain ⟨aa, cc, e2, -, hc⟩ := HA.out.below HBr.out (Nat.le_refl _)
      cases e2
      obtain ⟨b1, off, rfl, hc2⟩ := hc (by omega)
      have d0 := hc2 k hlt
      generalize hv : ways[k] = v0 at d0 HST
      generalize hWk : wentOf N (ways.take k) = Wk at *
      obtain ⟨gw, cw, rfl⟩ := (row_form3 hown).2 (by omega)
      have d1 : wr.cell? ⟨gw, Wk.length - 1, none⟩ = some (.int .i64 (Wk.getD (Wk.length - 1) 0)) := by
        have := hown.cellAt (Wk.length - 1) (by omega)
        rw [this]
        simp [List.getD_eq_getElem?_getD, List.getElem?_eq_getElem (show Wk.length - 1 < Wk.length by omega)]
      unfold wentStep at HST
      generalize Wk.getD (Wk.length - 1) 0 = last at d1 HST
      have HO := Lib.hid hown
      have hm0 : (0 : Int) ≤ (Wk.length : Int) - 1 := by omega
      have hm1 : (Wk.length : Int) - 1 < (Wk.length : Int) := by omega
      have hm2 : ((Wk.length : Int) - 1).toNat = Wk.length - 1 := by omega
      have hwr := IntWalk.i64_in ((Wk.length : Int) - 1) (by omega)
      clear hc hc2 hv hWk hown hw3 hw2
      by_cases g1 : 0 ≤ v0
      · by_cases g2 : v0 < (N : Int)
        · by_cases g3 : v0 = last
          · have HE : Hid (wentOf N (ways.take (k + 1)) = Wk) := Lib.hid (by rw [HST.out, if_neg (by simp [g3])])
            have e3 : (v0 != last) = false := by simpa using g3
            clear g3 HST
            go_wp2_with fail
            go_quiet (fail)
            go_wp2
            go_roundw
            case rel => exact ⟨k + 1, by omega, by go_num, by rw [HE.out]; exact HO.out, Lib.hid (below_drewN HBr.out _), HSr⟩
            case measure => simp [intOf]; omega
          · have HE : Hid (wentOf N (ways.take (k + 1)) = Wk ++ [v0]) := Lib.hid (by rw [HST.out, if_pos ⟨g1, g2, g3⟩])
            have e3 : (v0 != last) = true := by simpa using g3
            clear g3 HST
            go_wp2_with fail
            go_quiet (fail)
            generalize hwd : wr.drewN nq = wd
            have HBd : Hid (Below w.heap.size w wd) := Lib.hid (by rw [← hwd]; exact below_drewN HBr.out _)
            have HSd : Hid (wd.heap[W1.heap.size]? = some (.cells #[.int .i64 (N : Int), .int .i64 1, .int .i64 1] 23)) := Lib.hid (by rw [← hwd]; exact HSr.out)
            have HOd : Hid (wd.ownsRow w.heap.size 3 1 (.slice (some ⟨gw, 0, none⟩) Wk.length cw) Wk.length (Wk.map (Value.int .i64))) := Lib.hid (by rw [← hwd]; exact HO.out)
            have d0 : wd.cell? ⟨b1, off + k, none⟩ = some (.int .i64 v0) := by rw [← hwd]; exact d0
            have hsd := HBd.out.size
            clear hwd d1 hm0 hm1 hm2 hwr e3 g1 g2
            go_wp2_with (at_builtin; go_loud (refine wpList_append_own _ rfl _ _ 38 rfl w.heap.size 3 i0 (.int .i64 0) 1 8 Try.underlying38 hi hz0 hz1 hz2 rfl (by decide) _ _ _ rfl (HOd.out.alloc _) ⟨wd.heap.size, 0, none⟩ 1 1 [.int .i64 v0] rfl rfl (cell_one_new _ _ _) (by simp [Value.oneCell']) ?c3 ?c4 ?c5 ?_))
            case c3 => unfold maxLen; omega
            case c4 => omega
            case c5 => simp; omega
            intro v' w3 hown' hgrow _
            have hb := ((HBd.out.alloc hsd _).grown hgrow (by simp; omega) (fun k hk => (HOd.out.lt k hk).1))
            have HW3 := Lib.hid hb
            have HS3 : Hid (w3.heap[W1.heap.size]? = _) := Lib.hid ((hgrow.block W1.heap.size (by have := heap_lt HSd.out; simp; omega) (fun e => own_not3 HOd.out HSd.out (by decide) e.symm)).trans (heap_old HSd.out))
            have HO3 : Hid (w3.ownsRow w.heap.size 3 1 v' (Wk ++ [v0]).length ((Wk ++ [v0]).map (Value.int .i64))) := Lib.hid (by simpa using hown')
            clear hgrow hown' hb d0
            go_wp2
            go_roundw
            case rel => exact ⟨k + 1, by omega, by go_num, by rw [HE.out]; exact HO3.out, HW3, HS3⟩
            case measure => simp [intOf]; omega
        · have HE : Hid (wentOf N (ways.take (k + 1)) = Wk) := Lib.hid (by rw [HST.out, if_neg (fun h => g2 h.2.1)])
          have e2 : decide (v0 < (N : Int)) = false := by simpa using g2
          clear HST
          go_wp2_with fail
          go_quiet (fail)
          go_wp2
          go_roundw
          case rel => exact ⟨k + 1, by omega, by go_num, by rw [HE.out]; exact HO.out, Lib.hid (below_drewN HBr.out _), HSr⟩
          case measure => simp [intOf]; omega
      · have HE : Hid (wentOf N (ways.take (k + 1)) = Wk) := Lib.hid (by rw [HST.out, if_neg (fun h => g1 h.1)])
        have e2 : decide (0 ≤ v0) = false := by simpa using g1
        clear HST
        go_wp2_with fail
        go_quiet (fail)
        go_wp2
        go_roundw
        case rel => exact ⟨k + 1, by omega, by go_num, by rw [HE.out]; exact HO.out, Lib.hid (below_drewN HBr.out _), HSr⟩
        case measure => simp [intOf]; omega
    · obtain rfl : k = ways.length := by omega
      rw [List.take_length] at hown hw1 hw2 hw3 hw2'
      have hf0 : (wentOf N ways).getD 0 0 = 0 := went_head N ways
      generalize wentOf N ways = Wf at *
      have HV3 := Lib.hid hw3
      have HLF := Lib.hid (fun i h => laid_facts N Wf (by omega) hw1 hf0 hw3 i h)
      have hsr := HBr.out.size
      have HO := Lib.hid hown
      clear hown hw2 hw3 hf0
      go_wp2_with (refine wpList_make_owns rfl (.tmp 90) (.tmp 90) rfl N rfl rfl (by omega) w.heap.size hsr wr.heap.size rfl ?_)
      intro w4 h1 h2
      have hb4 : Below wr.heap.size wr w4 := ⟨h2.os, h2.tape, h2.output, h2.size, fun i hi => h2.block i hi (by simp)⟩
      have HB4 := Lib.hid (HBr.out.trans (hb4.mono hsr))
      have HS4 := Lib.hid (heap_call hb4 HSr.out)
      have HO4 := Lib.hid (Row3.below HO.out hb4)
      have HL4 : Hid (w4.ownsRow w.heap.size 25 2 (.slice (some ⟨wr.heap.size, 0, none⟩) N N) N (flat (laid N Wf 0))) := Lib.hid h1
      clear h1 h2 hb4 HO HSr
      obtain ⟨gw, cw, rfl⟩ := (row_form3 HO4.out).2 (by omega)
      generalize hgl : wr.heap.size = gl at *
      clear hgl
      go_wp2_with fail
      go_loopw [13] (fun i wr => ∃ k : Nat, k + 1 ≤ Wf.length ∧ i = .int .i64 k ∧ wr.ownsRow w.heap.size 25 2 (.slice (some ⟨gl, 0, none⟩) N N) N (flat (laid N Wf k)) ∧ wr.ownsRow w.heap.size 3 1 (.slice (some ⟨gw, 0, none⟩) Wf.length cw) Wf.length (Wf.map (Value.int .i64)) ∧ Hid (Below w.heap.size w wr) ∧ Hid (wr.heap[W1.heap.size]? = some (.cells #[.int .i64 (N : Int), .int .i64 1, .int .i64 1] 23))) (fun i _ => Wf.length - (intOf i).toNat)
      case atStart => exact ⟨0, by omega, rfl, HL4.out, HO4.out, HB4, HS4⟩
      case round =>
        obtain ⟨i, hi1, rfl, hL, hO, HBx, HSx⟩ := hrel
        by_cases hlt : i + 1 < Wf.length
        · have z0 : wr.cell? ⟨gw, i, none⟩ = some (.int .i64 (Wf.getD i 0)) := by
            have := hO.cellAt i (by omega)
            rw [this]; simp [List.getD_eq_getElem?_getD, List.getElem?_eq_getElem (show i < Wf.length by omega)]
          have z1 : wr.cell? ⟨gw, i + 1, none⟩ = some (.int .i64 (Wf.getD (i + 1) 0)) := by
            have := hO.cellAt (i + 1) (by omega)
            rw [this]; simp [List.getD_eq_getElem?_getD, List.getElem?_eq_getElem hlt]
          obtain ⟨hn0, hn1⟩ := HV3.out (Wf.getD i 0) (by rw [List.getD_eq_getElem?_getD, List.getElem?_eq_getElem (show i < Wf.length by omega)]; simp)
          have HLN : Hid (laid N Wf (i + 1) = (laid N Wf i).set (Wf.getD i 0).toNat ⟨Wf.getD (i + 1) 0, ((i + 1 : Nat) : Int)⟩) := rfl
          have hll : (laid N Wf i).length = N := (HLF.out i (by omega)).1.1
          obtain ⟨nd, hnd⟩ := Int.eq_ofNat_of_zero_le hn0
          rw [hnd] at z0 hn1 HLN
          rw [Int.toNat_natCast] at HLN
          generalize Wf.getD (i + 1) 0 = y at z1 HLN
          generalize laid N Wf i = Li at *
          have hndl : nd < Li.length := by omega
          have c0 := (hL.cellAt (nd * 2 + 0) (by omega)).trans (flat_get Li nd 0 hndl (by omega))
          have c1 := (hL.cellAt (nd * 2 + 1) (by omega)).trans (flat_get Li nd 1 hndl (by omega))
          simp only [Ow.cells, Nat.add_zero, List.getElem?_cons_zero, List.getElem?_cons_succ] at c0 c1
          have f0 := row_frozen hL (nd * 2)
          have f1 := row_frozen hL (nd * 2 + 1)
          obtain ⟨cL, hcL⟩ := row_block hL
          have hne9 : W1.heap.size ≠ gl := by
            intro e
            have h9 := HSx.out
            rw [e, hcL] at h9
            cases h9
          have hgg : gl ≠ gw := by
            intro e
            exact own_not3 hO hcL (by decide) (by rw [e]; rfl)
          have HL := Lib.hid hL
          have HO := Lib.hid hO
          have hglw : w.heap.size ≤ gl := (hL.lt gl rfl).1
          have hn2 : (nd : Int) < (N : Int) := by omega
          have hn3 : (0 : Int) ≤ (nd : Int) := by omega
          have hi0 : (0 : Int) ≤ (i : Int) := by omega
          have hi2 : (i : Int) + 1 < (Wf.length : Int) := by omega
          have hi3 : (i : Int) < (Wf.length : Int) := by omega
          have hi4 : (0 : Int) ≤ (i : Int) + 1 := by omega
          have hi5 : ((i : Int) + 1).toNat = i + 1 := by omega
          clear hL hO hcL hn0 hnd hn1
          have hwi := IntWalk.i64_in ((i : Int) + 1) (by omega)
          go_wp2_with fail
          refine wp_region_held_drew (S := fun w' => w'.cell? ⟨gw, i, none⟩ = some (.int .i64 (nd : Int)) ∧ w'.cell? ⟨gw, i + 1, none⟩ = some (.int .i64 y)) (by kernel_rfl) (⟨z0, z1⟩) (fun hH => ?_)
          refine wpAnyH_take (i := 0) (oi := ⟨some 99, _, _, _, _, _⟩) (v := ?_) rfl (by kernel_rfl) (by kernel_rfl) (by kernel_rfl) (fun _ _ _ h => h) (Or.inl ⟨by rfl, ?_⟩) hH ?_
          rotate_left
          · intro W _; go_simp; with_reducible rfl
          (try simp only [Act.put, List.setIfInBounds_toArray, List.set_cons_zero, List.set_cons_succ])
          refine wpAnyH_take (i := 1) (oi := ⟨some 100, _, _, _, _, _⟩) (v := ?_) rfl (by kernel_rfl) (by kernel_rfl) (by kernel_rfl) (fun _ _ _ h => h) (Or.inl ⟨by rfl, ?_⟩) hH ?_
          rotate_left
          · intro W _; go_simp; with_reducible rfl
          (try simp only [Act.put, List.setIfInBounds_toArray, List.set_cons_zero, List.set_cons_succ])
          refine wpAnyH_take (i := 2) (oi := ⟨some 101, _, _, _, _, _⟩) (v := ?_) rfl (by kernel_rfl) (by kernel_rfl) (by kernel_rfl) (fun _ _ _ h => h) (Or.inl ⟨by rfl, ?_⟩) hH ?_
          rotate_left
          · intro W _; go_simp; with_reducible rfl
          (try simp only [Act.put, List.setIfInBounds_toArray, List.set_cons_zero, List.set_cons_succ])
          refine wpAnyH_take (i := 3) (oi := ⟨some 102, _, _, _, _, _⟩) (v := ?_) rfl (by kernel_rfl) (by kernel_rfl) (by kernel_rfl) (fun _ _ _ h => h) (Or.inl ⟨by rfl, ?_⟩) hH ?_
          rotate_left
          · intro W _; go_simp; with_reducible rfl
          (try simp only [Act.put, List.setIfInBounds_toArray, List.set_cons_zero, List.set_cons_succ])
          refine wpAnyH_take (i := 4) (oi := ⟨some 103, _, _, _, _, _⟩) (v := ?_) rfl (by kernel_rfl) (by kernel_rfl) (by kernel_rfl) (fun _ _ _ h => h) (Or.inl ⟨by rfl, ?_⟩) hH ?_
          rotate_left
          · intro W hSW; go_split_ands; go_simp; with_reducible rfl
          (try simp only [Act.put, List.setIfInBounds_toArray, List.set_cons_zero, List.set_cons_succ])
          refine wpAnyH_take (i := 5) (oi := ⟨some 104, _, _, _, _, _⟩) (v := ?_) rfl (by kernel_rfl) (by kernel_rfl) (by kernel_rfl) (fun _ _ _ h => h) (Or.inl ⟨by rfl, ?_⟩) hH ?_
          rotate_left
          · intro W _; go_simp; with_reducible rfl
          (try simp only [Act.put, List.setIfInBounds_toArray, List.set_cons_zero, List.set_cons_succ])
          refine wpAnyH_take (i := 6) (oi := ⟨some 105, _, _, _, _, _⟩) (v := ?_) rfl (by kernel_rfl) (by kernel_rfl) (by kernel_rfl) (fun _ _ _ h => h) (Or.inl ⟨by rfl, ?_⟩) hH ?_
          rotate_left
          · intro W _; go_simp; with_reducible rfl
          (try simp only [Act.put, List.setIfInBounds_toArray, List.set_cons_zero, List.set_cons_succ])
          refine wpAnyH_take (i := 7) (oi := ⟨some 106, _, _, _, _, _⟩) (v := ?_) rfl (by kernel_rfl) (by kernel_rfl) (by kernel_rfl) (fun _ _ _ h => h) (Or.inl ⟨by rfl, ?_⟩) hH ?_
          rotate_left
          · intro W _; go_simp; with_reducible rfl
          (try simp only [Act.put, List.setIfInBounds_toArray, List.set_cons_zero, List.set_cons_succ])
          refine wpAnyH_take (i := 8) (oi := ⟨some 107, _, _, _, _, _⟩) (v := ?_) rfl (by kernel_rfl) (by kernel_rfl) (by kernel_rfl) (fun _ _ _ h => h) (Or.inl ⟨by rfl, ?_⟩) hH ?_
          rotate_left
          · intro W _; go_simp; with_reducible rfl
          (try simp only [Act.put, List.setIfInBounds_toArray, List.set_cons_zero, List.set_cons_succ])
          refine wpAnyH_take (i := 9) (oi := ⟨some 108, _, _, _, _, _⟩) (v := ?_) rfl (by kernel_rfl) (by kernel_rfl) (by kernel_rfl) (fun _ _ _ h => h) (Or.inl ⟨by rfl, ?_⟩) hH ?_
          rotate_left
          · intro W hSW; go_split_ands; go_simp; with_reducible rfl
          (try simp only [Act.put, List.setIfInBounds_toArray, List.set_cons_zero, List.set_cons_succ])
          refine wpAnyH_take (i := 10) (oi := ⟨some 109, _, _, _, _, _⟩) (v := ?_) rfl (by kernel_rfl) (by kernel_rfl) (by kernel_rfl) (fun _ _ _ h => h) (Or.inl ⟨by rfl, ?_⟩) hH ?_
          rotate_left
          · intro W _; go_simp; with_reducible rfl
          (try simp only [Act.put, List.setIfInBounds_toArray, List.set_cons_zero, List.set_cons_succ])
          refine wpAnyH_take (i := 11) (oi := ⟨some 110, _, _, _, _, _⟩) (v := ?_) rfl (by kernel_rfl) (by kernel_rfl) (by kernel_rfl) (fun _ _ _ h => h) (Or.inl ⟨by rfl, ?_⟩) hH ?_
          rotate_left
          · intro W _; go_simp; with_reducible rfl
          (try simp only [Act.put, List.setIfInBounds_toArray, List.set_cons_zero, List.set_cons_succ])
          refine wpAnyH_take (i := 12) (oi := ⟨some 111, _, _, _, _, _⟩) (v := ?_) rfl (by kernel_rfl) (by kernel_rfl) (by kernel_rfl) (fun _ _ _ h => h) (Or.inl ⟨by rfl, ?_⟩) hH ?_
          rotate_left
          · intro W _; go_simp; with_reducible rfl
          (try simp only [Act.put, List.setIfInBounds_toArray, List.set_cons_zero, List.set_cons_succ])
          refine wpAnyH_take (i := 13) (oi := ⟨some 112, _, _, _, _, _⟩) (v := ?_) rfl (by kernel_rfl) (by kernel_rfl) (by kernel_rfl) (fun _ _ _ h => h) (Or.inl ⟨by rfl, ?_⟩) hH ?_
          rotate_left
          · intro W _; go_simp; with_reducible rfl
          (try simp only [Act.put, List.setIfInBounds_toArray, List.set_cons_zero, List.set_cons_succ])
          refine wpAnyH_ready (rs := [14]) (by kernel_rfl) (by simp) ?_
          refine AllReadyH.cons (o := ⟨none, _, _, _, _, _⟩) rfl (fun K hK => ?_) (AllReadyH.nil)
          go_simp
          refine hK.out _ _ (⟨(World.cell?_setCell_far _ _ _ _ hgg).trans ((World.cell?_setCell_far _ _ _ _ hgg).trans z0), (World.cell?_setCell_far _ _ _ _ hgg).trans ((World.cell?_setCell_far _ _ _ _ hgg).trans z1)⟩) (fun hH => ?_)
          clear hK K
          (try simp only [Act.put, List.setIfInBounds_toArray, List.set_cons_zero, List.set_cons_succ])
          refine wpAnyH_done (by kernel_rfl) ?_ _
          clear hH
          clear hwi
          have HLS := Lib.hid (row_put (HL.out.drew) nd hndl ⟨y, ((i + 1 : Nat) : Int)⟩)
          go_wp2
          go_roundw
          case rel => exact ⟨i + 1, by omega, by go_num, by rw [HLN.out]; exact HLS.out, ownsRow_setCell_other (ownsRow_setCell_other HO.out.drew (by intro e; exact hgg (by cases e; rfl)) _) (by intro e; exact hgg (by cases e; rfl)) _, Lib.hid (below_set HBx.out.drew hglw _ _ _ _), Lib.hid (heap_far HSx.out hne9 _ _ _ _)⟩
          case measure => simp [intOf]; omega
        · obtain rfl : i = Wf.length - 1 := by omega
          have hGS := HLF.out (Wf.length - 1) (by omega)
          have HTF := Lib.hid (fun n h => told_facts N Wf told _ _ hGS n h)
          have HL0 := Lib.hid hL
          have HO0 := Lib.hid hO
          have hglw : w.heap.size ≤ gl := (hL.lt gl rfl).1
          have hi2 : (((Wf.length - 1 : Nat) : Int)) + 1 = (Wf.length : Int) := by omega
          obtain ⟨cL0, hcL0⟩ := row_block hL
          have hgg : gl ≠ gw := by
            intro e
            exact own_not3 hO hcL0 (by decide) (by rw [e]; rfl)
          have hne9 : W1.heap.size ≠ gl := by
            intro e
            have h9 := HSx.out
            rw [e, hcL0] at h9
            cases h9
          generalize laid N Wf (Wf.length - 1) = L0 at *
          clear hL hO hcL0 hGS HLF
          have b6 : decide ((Wf.length : Int) < (Wf.length : Int)) = false := decide_eq_false (by omega)
          go_wp2_with fail
          go_loopw [14] (fun i wr => ∃ j : Nat, j ≤ N ∧ j ≤ told.length ∧ i = .int .i64 j ∧ wr.ownsRow w.heap.size 25 2 (.slice (some ⟨gl, 0, none⟩) N N) N (flat (toldL Wf told L0 j)) ∧ wr.ownsRow w.heap.size 3 1 (.slice (some ⟨gw, 0, none⟩) Wf.length cw) Wf.length (Wf.map (Value.int .i64)) ∧ Hid (Below w.heap.size w wr) ∧ Hid (wr.heap[W1.heap.size]? = some (.cells #[.int .i64 (N : Int), .int .i64 1, .int .i64 1] 23))) (fun i _ => N - (intOf i).toNat)
          case atStart => exact ⟨0, by omega, by omega, rfl, HL0.out, HO0.out, HBx, HSx⟩
          case round =>
            obtain ⟨j, hjN, hjt, rfl, hL, hO, HBy, HSy⟩ := hrel
            by_cases hlt : j < told.length ∧ j < N
            · obtain ⟨hlt1, hlt2⟩ := hlt
              have HSTEP : Hid (toldL Wf told L0 (j + 1) = tell Wf (toldL Wf told L0 j) j (told.getD j 0)) := rfl
              have hll : (toldL Wf told L0 j).length = N := (HTF.out j (by omega)).1.1
              obtain ⟨bb, cc, e2, -, hc⟩ := HB.out.below HBy.out (Nat.le_refl _)
              cases e2
              obtain ⟨b1, off, rfl, hc2⟩ := hc (by omega)
              have d0 := hc2 j hlt1
              have hgd : told.getD j 0 = told[j] := by simp [List.getD_eq_getElem?_getD, List.getElem?_eq_getElem hlt1]
              rw [hgd] at HSTEP
              generalize told[j] = kk at d0 HSTEP
              generalize toldL Wf told L0 j = Lj at *
              have hjl : j < Lj.length := by omega
              have c0 := (hL.cellAt (j * 2 + 0) (by omega)).trans (flat_get Lj j 0 hjl (by omega))
              have c1 := (hL.cellAt (j * 2 + 1) (by omega)).trans (flat_get Lj j 1 hjl (by omega))
              simp only [Ow.cells, Nat.add_zero, List.getElem?_cons_zero, List.getElem?_cons_succ] at c0 c1
              unfold tell at HSTEP
              rw [getD_of hjl] at HSTEP
              generalize Lj[j] = lj at c0 c1 HSTEP
              obtain ⟨ln, lh⟩ := lj
              simp only at c0 c1 HSTEP
              have f0 := row_frozen hL (j * 2)
              have f1 := row_frozen hL (j * 2 + 1)
              have HL := Lib.hid hL
              have HO := Lib.hid hO
              have hj0 : (0 : Int) ≤ (j : Int) := by omega
              have hj1 : (j : Int) < (N : Int) := by omega
              have hj2 : (j : Int) < (told.length : Int) := by omega
              have b7 : decide ((j : Int) < (told.length : Int)) = true := decide_eq_true (by omega)
              have b8 : decide (j < N) = true := decide_eq_true (by omega)
              clear hL hO hc hc2 hgd
              by_cases g : 0 ≤ kk ∧ kk < (Wf.length : Int) ∧ lh < kk
              · obtain ⟨g1, g2, g3⟩ := g
                obtain ⟨kn, rfl⟩ := Int.eq_ofNat_of_zero_le g1
                have hkn : kn < Wf.length := by omega
                have z0 : wr.cell? ⟨gw, kn, none⟩ = some (.int .i64 (Wf.getD kn 0)) := by
                  have := HO.out.cellAt kn (by omega)
                  rw [this]; simp [List.getD_eq_getElem?_getD, List.getElem?_eq_getElem hkn]
                have HN2 : Hid (toldL Wf told L0 (j + 1) = Lj.set j ⟨Wf.getD kn 0, (kn : Int)⟩) := Lib.hid (by rw [HSTEP.out, if_pos ⟨g1, g2, g3⟩, Int.toNat_natCast])
                have k1 : decide ((0 : Int) ≤ (kn : Int)) = true := decide_eq_true g1
                have k2 : decide ((kn : Int) < (Wf.length : Int)) = true := decide_eq_true g2
                have k3 : decide (lh < (kn : Int)) = true := decide_eq_true g3
                generalize Wf.getD kn 0 = y at z0 HN2
                have HLS := Lib.hid (row_put HL.out j hjl ⟨y, (kn : Int)⟩)
                clear HSTEP
                go_wp2
                go_roundw
                case rel => exact ⟨j + 1, by omega, by omega, by go_num, by rw [HN2.out]; exact HLS.out, ownsRow_setCell_other (ownsRow_setCell_other HO.out (by intro e; exact hgg (by cases e; rfl)) _) (by intro e; exact hgg (by cases e; rfl)) _, Lib.hid (below_set HBy.out hglw _ _ _ _), Lib.hid (heap_far HSy.out hne9 _ _ _ _)⟩
                case measure => simp [intOf]; omega
              · have HN2 : Hid (toldL Wf told L0 (j + 1) = Lj) := Lib.hid (by rw [HSTEP.out, if_neg g])
                clear HSTEP
                by_cases g1 : 0 ≤ kk
                · by_cases g2 : kk < (Wf.length : Int)
                  · have g3 : kk ≤ lh := by
                      by_cases h : lh < kk
                      · exact absurd ⟨g1, g2, h⟩ g
                      · omega
                    have k3 : decide (lh < kk) = false := decide_eq_false (by omega)
                    obtain ⟨kn, rfl⟩ := Int.eq_ofNat_of_zero_le g1
                    have k1 : decide ((0 : Int) ≤ (kn : Int)) = true := decide_eq_true g1
                    have k2 : decide ((kn : Int) < (Wf.length : Int)) = true := decide_eq_true g2
                    clear g
                    go_wp2
                    go_roundw
                    case rel => exact ⟨j + 1, by omega, by omega, by go_num, by rw [HN2.out]; exact HL.out, HO.out, HBy, HSy⟩
                    case measure => simp [intOf]; omega
                  · obtain ⟨kn, rfl⟩ := Int.eq_ofNat_of_zero_le g1
                    have k1 : decide ((0 : Int) ≤ (kn : Int)) = true := decide_eq_true g1
                    have k2 : decide ((kn : Int) < (Wf.length : Int)) = false := decide_eq_false g2
                    clear g
                    go_wp2
                    go_roundw
                    case rel => exact ⟨j + 1, by omega, by omega, by go_num, by rw [HN2.out]; exact HL.out, HO.out, HBy, HSy⟩
                    case measure => simp [intOf]; omega
                · have k1 : decide (0 ≤ kk) = false := decide_eq_false g1
                  clear g
                  go_wp2
                  go_roundw
                  case rel => exact ⟨j + 1, by omega, by omega, by go_num, by rw [HN2.out]; exact HL.out, HO.out, HBy, HSy⟩
                  case measure => simp [intOf]; omega
            · obtain ⟨hG, hS⟩ := HTF.out j (by omega)
              generalize toldL Wf told L0 j = L at *
              have hask := good_asked (og := og) (by omega) hN2 hog (by omega) HV3.out hG
              have hE : endsR N 1 1 L ⟨false, ⟨0, 0⟩, og, 0⟩ = (endAt (way L og og 0) og, 0) := by
                unfold endsR wayR
                rw [hask]
                rfl
              have hlast := ends_last N Wf L og hw1 HV3.out hG hS ⟨by omega, by omega⟩
              have HEN := Lib.hid (ends_any N 1 1 (.slice (some ⟨gl, 0, none⟩) N N) L ⟨false, ⟨0, 0⟩, og, 0⟩ wr (by
                have h := Owns.of_row (B := w.heap.size) (v := .slice (some ⟨gl, 0, none⟩) N N) (l := L) (w := wr) (by rw [hG.1]; exact hL)
                exact h) (fun m c h => by cases h) (by rw [hG.1]; omega))
              rw [hE] at HEN
              change (0 ≤ endAt (way L og og 0) og ∧ endAt (way L og og 0) og < (N : Int)) ∧ (endAt (way L og og 0) og = Wf.getD (Wf.length - 1) 0 ∨ (L.getD (endAt (way L og og 0) og).toNat gz).node = (og : Int) ∨ endAt (way L og og 0) og = (og : Int)) at hlast
              generalize endAt (way L og og 0) og = at_ at *
              obtain ⟨⟨ha0, ha1⟩, hd⟩ := hlast
              obtain ⟨an, rfl⟩ := Int.eq_ofNat_of_zero_le ha0
              have hanl : an < L.length := by rw [hG.1]; omega
              rw [Int.toNat_natCast, getD_of hanl] at hd
              have HD := Lib.hid hd
              have s0 : wr.cell? ⟨W1.heap.size, 0, none⟩ = some (.int .i64 (N : Int)) := cell_of HSy.out 0
              have s1 : wr.cell? ⟨W1.heap.size, 1, none⟩ = some (.int .i64 1) := cell_of HSy.out 1
              have s2 : wr.cell? ⟨W1.heap.size, 2, none⟩ = some (.int .i64 1) := cell_of HSy.out 2
              have hsl := heap_lt HSy.out
              have HL := Lib.hid hL
              have HO := Lib.hid hO
              have b7 : (decide ((j : Int) < (told.length : Int)) && decide (j < N)) = false := by
                by_cases h1 : j < told.length
                · have h2 : ¬ j < N := fun h2 => hlt ⟨h1, h2⟩
                  simp [h2]
                · have : ¬ (j : Int) < (told.length : Int) := by omega
                  simp [this]
              have hG1 := hG.1
              clear hL hO hd hE hask hG hS ha0
              simp only [Sk.val, shapeV] at HEN
              by_cases h1 : j < told.length
              · have h2 : j = N := by
                  by_cases h : j < N
                  · exact absurd ⟨h1, h⟩ hlt
                  · omega
                subst h2
                clear hlt b7
                go_wp2_with fail
                refine HEN.out.mono ?_
                rintro e w5 ⟨rfl, hb⟩
                have HB5 := Lib.hid (HBy.out.trans (hb.mono HBy.out.size))
                have HL5 := Row.below HL.out hb
                have HO5 := Row3.below HO.out hb
                have z0 : w5.cell? ⟨gw, Wf.length - 1, none⟩ = some (.int .i64 (Wf.getD (Wf.length - 1) 0)) := by
                  have := HO5.cellAt (Wf.length - 1) (by omega)
                  rw [this]; simp [List.getD_eq_getElem?_getD, List.getElem?_eq_getElem (show Wf.length - 1 < Wf.length by omega)]
                have c0 := (HL5.cellAt (an * 2 + 0) (by omega)).trans (flat_get L an 0 hanl (by omega))
                simp only [Ow.cells, Nat.add_zero, List.getElem?_cons_zero] at c0
                generalize Wf.getD (Wf.length - 1) 0 = last at z0 HD
                generalize L[an] = la at c0 HD
                have hm0 : (0 : Int) ≤ (Wf.length : Int) - 1 := by omega
                have hm1 : (Wf.length : Int) - 1 < (Wf.length : Int) := by omega
                have hm2 : ((Wf.length : Int) - 1).toNat = Wf.length - 1 := by omega
                have hwr := IntWalk.i64_in ((Wf.length : Int) - 1) (by omega)
                have hn1 : decide ((an : Int) < 0) = false := decide_eq_false (by omega)
                have hn2 : decide (j ≤ an) = false := decide_eq_false (by omega)
                have hn3 : (0 : Int) ≤ (an : Int) := by omega
                have hn4 : (an : Int) < ((j : Nat) : Int) := ha1
                clear hb HL5 HO5 s0 s1 s2
                rcases HD.out with h | h | h
                · have e1 : ((an : Int) == last) = true := by simpa using h
                  clear h
                  go_wp2_with (first | (go_at_call 11; refine (num_keep _ _).mono ?_; rintro e w' ⟨rfl, rfl⟩) | fail)
                  refine (HW.out _).mono ?_
                  rintro e w6 ⟨rfl, hb⟩
                  have HB6 := Lib.hid (HB5.out.trans (hb.mono HB5.out.size))
                  clear hb
                  go_wp2
                  go_ret
                  exact ⟨rfl, HB6.out⟩
                · have e2 : (la.node == (og : Int)) = true := by simpa using h
                  clear h
                  by_cases h3 : (an : Int) = last
                  · have e1 : ((an : Int) == last) = true := by simpa using h3
                    clear h3
                    go_wp2_with (first | (go_at_call 11; refine (num_keep _ _).mono ?_; rintro e w' ⟨rfl, rfl⟩) | fail)
                    refine (HW.out _).mono ?_
                    rintro e w6 ⟨rfl, hb⟩
                    have HB6 := Lib.hid (HB5.out.trans (hb.mono HB5.out.size))
                    clear hb
                    go_wp2
                    go_ret
                    exact ⟨rfl, HB6.out⟩
                  · have e1 : ((an : Int) == last) = false := by simpa using h3
                    clear h3
                    go_wp2_with (first | (go_at_call 11; refine (num_keep _ _).mono ?_; rintro e w' ⟨rfl, rfl⟩) | fail)
                    refine (HW.out _).mono ?_
                    rintro e w6 ⟨rfl, hb⟩
                    have HB6 := Lib.hid (HB5.out.trans (hb.mono HB5.out.size))
                    clear hb
                    go_wp2
                    go_ret
                    exact ⟨rfl, HB6.out⟩
                · obtain rfl : an = og := by omega
                  have e3 : ((an : Int) == (an : Int)) = true := by simp
                  by_cases h3 : (an : Int) = last
                  · have e1 : ((an : Int) == last) = true := by simpa using h3
                    clear h3
                    go_wp2_with (first | (go_at_call 11; refine (num_keep _ _).mono ?_; rintro e w' ⟨rfl, rfl⟩) | fail)
                    refine (HW.out _).mono ?_
                    rintro e w6 ⟨rfl, hb⟩
                    have HB6 := Lib.hid (HB5.out.trans (hb.mono HB5.out.size))
                    clear hb
                    go_wp2
                    go_ret
                    exact ⟨rfl, HB6.out⟩
                  · have e1 : ((an : Int) == last) = false := by simpa using h3
                    clear h3
                    by_cases h4 : la.node = (an : Int)
                    · have e2 : (la.node == (an : Int)) = true := by simpa using h4
                      clear h4
                      go_wp2_with (first | (go_at_call 11; refine (num_keep _ _).mono ?_; rintro e w' ⟨rfl, rfl⟩) | fail)
                      refine (HW.out _).mono ?_
                      rintro e w6 ⟨rfl, hb⟩
                      have HB6 := Lib.hid (HB5.out.trans (hb.mono HB5.out.size))
                      clear hb
                      go_wp2
                      go_ret
                      exact ⟨rfl, HB6.out⟩
                    · have e2 : (la.node == (an : Int)) = false := by simpa using h4
                      clear h4
                      go_wp2_with (first | (go_at_call 11; refine (num_keep _ _).mono ?_; rintro e w' ⟨rfl, rfl⟩) | fail)
                      refine (HW.out _).mono ?_
                      rintro e w6 ⟨rfl, hb⟩
                      have HB6 := Lib.hid (HB5.out.trans (hb.mono HB5.out.size))
                      clear hb
                      go_wp2
                      go_ret
                      exact ⟨rfl, HB6.out⟩
              · have h2 : j = told.length := by omega
                subst h2
                clear hlt b7
                go_wp2_with fail
                refine HEN.out.mono ?_
                rintro e w5 ⟨rfl, hb⟩
                have HB5 := Lib.hid (HBy.out.trans (hb.mono HBy.out.size))
                have HL5 := Row.below HL.out hb
                have HO5 := Row3.below HO.out hb
                have z0 : w5.cell? ⟨gw, Wf.length - 1, none⟩ = some (.int .i64 (Wf.getD (Wf.length - 1) 0)) := by
                  have := HO5.cellAt (Wf.length - 1) (by omega)
                  rw [this]; simp [List.getD_eq_getElem?_getD, List.getElem?_eq_getElem (show Wf.length - 1 < Wf.length by omega)]
                have c0 := (HL5.cellAt (an * 2 + 0) (by omega)).trans (flat_get L an 0 hanl (by omega))
                simp only [Ow.cells, Nat.add_zero, List.getElem?_cons_zero] at c0
                generalize Wf.getD (Wf.length - 1) 0 = last at z0 HD
                generalize L[an] = la at c0 HD
                have hm0 : (0 : Int) ≤ (Wf.length : Int) - 1 := by omega
                have hm1 : (Wf.length : Int) - 1 < (Wf.length : Int) := by omega
                have hm2 : ((Wf.length : Int) - 1).toNat = Wf.length - 1 := by omega
                have hwr := IntWalk.i64_in ((Wf.length : Int) - 1) (by omega)
                have hn1 : decide ((an : Int) < 0) = false := decide_eq_false (by omega)
                have hn2 : decide (N ≤ an) = false := decide_eq_false (by omega)
                have hn3 : (0 : Int) ≤ (an : Int) := by omega
                have hn4 : (an : Int) < ((N : Nat) : Int) := ha1
                clear hb HL5 HO5 s0 s1 s2
                rcases HD.out with h | h | h
                · have e1 : ((an : Int) == last) = true := by simpa using h
                  clear h
                  go_wp2_with (first | (go_at_call 11; refine (num_keep _ _).mono ?_; rintro e w' ⟨rfl, rfl⟩) | fail)
                  refine (HW.out _).mono ?_
                  rintro e w6 ⟨rfl, hb⟩
                  have HB6 := Lib.hid (HB5.out.trans (hb.mono HB5.out.size))
                  clear hb
                  go_wp2
                  go_ret
                  exact ⟨rfl, HB6.out⟩
                · have e2 : (la.node == (og : Int)) = true := by simpa using h
                  clear h
                  by_cases h3 : (an : Int) = last
                  · have e1 : ((an : Int) == last) = true := by simpa using h3
                    clear h3
                    go_wp2_with (first | (go_at_call 11; refine (num_keep _ _).mono ?_; rintro e w' ⟨rfl, rfl⟩) | fail)
                    refine (HW.out _).mono ?_
                    rintro e w6 ⟨rfl, hb⟩
                    have HB6 := Lib.hid (HB5.out.trans (hb.mono HB5.out.size))
                    clear hb
                    go_wp2
                    go_ret
                    exact ⟨rfl, HB6.out⟩
                  · have e1 : ((an : Int) == last) = false := by simpa using h3
                    clear h3
                    go_wp2_with (first | (go_at_call 11; refine (num_keep _ _).mono ?_; rintro e w' ⟨rfl, rfl⟩) | fail)
                    refine (HW.out _).mono ?_
                    rintro e w6 ⟨rfl, hb⟩
                    have HB6 := Lib.hid (HB5.out.trans (hb.mono HB5.out.size))
                    clear hb
                    go_wp2
                    go_ret
                    exact ⟨rfl, HB6.out⟩
                · obtain rfl : an = og := by omega
                  have e3 : ((an : Int) == (an : Int)) = true := by simp
                  by_cases h3 : (an : Int) = last
                  · have e1 : ((an : Int) == last) = true := by simpa using h3
                    clear h3
                    go_wp2_with (first | (go_at_call 11; refine (num_keep _ _).mono ?_; rintro e w' ⟨rfl, rfl⟩) | fail)
                    refine (HW.out _).mono ?_
                    rintro e w6 ⟨rfl, hb⟩
                    have HB6 := Lib.hid (HB5.out.trans (hb.mono HB5.out.size))
                    clear hb
                    go_wp2
                    go_ret
                    exact ⟨rfl, HB6.out⟩
                  · have e1 : ((an : Int) == last) = false := by simpa using h3
                    clear h3
                    by_cases h4 : la.node = (an : Int)
                    · have e2 : (la.node == (an : Int)) = true := by simpa using h4
                      clear h4
                      go_wp2_with (first | (go_at_call 11; refine (num_keep _ _).mono ?_; rintro e w' ⟨rfl, rfl⟩) | fail)
                      refine (HW.out _).mono ?_
                      rintro e w6 ⟨rfl, hb⟩
                      have HB6 := Lib.hid (HB5.out.trans (hb.mono HB5.out.size))
                      clear hb
                      go_wp2
                      go_ret
                      exact ⟨rfl, HB6.out⟩
                    · have e2 : (la.node == (an : Int)) = false := by simpa using h4
                      clear h4
                      go_wp2_with (first | (go_at_call 11; refine (num_keep _ _).mono ?_; rintro e w' ⟨rfl, rfl⟩) | fail)
                      refine (HW.out _).mono ?_
                      rintro e w6 ⟨rfl, hb⟩
                      have HB6 := Lib.hid (HB5.out.trans (hb.mono HB5.out.size))
                      clear hb
                      go_wp2
                      go_ret
                      exact ⟨rfl, HB6.out⟩
end Go.Proofs.Ytoanpfbdhkgncaa
