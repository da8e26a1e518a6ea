/-
  PROVED: The contracts of owner.Way and owner.Ends. CONDITIONS: at most 1000 guesses, which lie in the world.
-/
import Derived.Test.YtoanpfbdhkgncaaK
namespace Go.Proofs.Ytoanpfbdhkgncaa
open Go.RowKit
attribute [local go_sem] Oper.semAt_some
set_option maxRecDepth 100000
set_option maxHeartbeats 2000000
/-- Ranging over a way, from whatever world on that keeps the iterator's own memory. -/
def WaySeq (w' : World) (N : Nat) (ys : List Ow) (lb : Array Value) : Prop :=
  ∀ (Bx : Nat → Prop) (w : World) (m : Nat), 1 ≤ m → (∀ k, N ≤ k → k < w'.heap.size → ¬ Bx k) → (∀ k, w.heap.size ≤ k → ¬ Bx k) → KeepsBut Bx w' w →
    SeqStopsK Fence.wide m Try.prog 32 lb (fun o : Ow => #[.int .i64 o.node, .int .i64 o.hop]) (KeepsBut Bx) (fun xs => xs = ys) (fun pre => pre <+: ys) ys.length w
theorem row_stays {Bx : Nat → Prop} {w W' : World} {N n : Nat} {v : Value} {xs : List Value} (h : w.ownsRow N 25 2 v n xs) (hB : ∀ k, N ≤ k → k < w.heap.size → ¬ Bx k) (hk : KeepsBut Bx w W') : W'.ownsRow N 25 2 v n xs := by
  obtain ⟨h1, ⟨h2, h3⟩ | ⟨g, cap, cur, ha, h4, h5, h6⟩⟩ := h
  · exact ⟨h1, .inl ⟨h2, h3⟩⟩
  · exact ⟨h1, .inr ⟨g, cap, cur, ha, h4, hk.2 g _ (hB g h4 (heap_lt h5)) h5 rfl, h6⟩⟩
theorem way_any (n l s : Int) (v : Value) (xs : List Ow) (x : Sk) (w : World) (h : Owns w v xs) (hn : ∀ m c, v = .slice none m c → c = 0) (hsz : xs.length ≤ 1000) :
    Calls Try.prog 17 #[shapeV n l s, v, x.val] w fun e w' => (∃ lb, e = .returned (.func (.func 32) #[] lb) ∧ WaySeq w' w.heap.size (wayR n l s xs x) lb) ∧ Below w.heap.size w w' := by
  have HC := Lib.hid (fun w h => clone_any v xs w h hn hsz)
  have HO := Lib.hid h
  obtain ⟨ao, cp, rfl, hl, -⟩ := h
  obtain ⟨has, ⟨k, h⟩, o, c⟩ := x
  simp only [Sk.val, shapeV] at *
  clear hn
  go_enter Try.func17, Try.ntmps17
  go_wp2_with fail
  refine (HC.out _ (HO.out.below ((below_new _).alloc (by simp) _) (Nat.le_refl _))).mono ?_
  rintro e w1 ⟨⟨v', rfl, hrow⟩, hb⟩
  have HR := Lib.hid hrow
  have P := Lib.hid (heap_call hb (heap_old (heap_new (W := w) rfl)))
  have Q : Hid (w1.heap[w.heap.size + 1]? = some (.cells #[.bool has, .int .i64 k, .int .i64 h, .int .i64 o, .int .i64 c] 27)) := heap_call hb (heap_new (by simp))
  have HBz := Lib.hid (((below_new _).alloc (by simp) _).trans (hb.mono (by simp; omega)))
  have hs0 := hb.size
  simp only [World.size_alloc] at hs0
  obtain ⟨ao', cp', rfl, -⟩ := row_form hrow
  clear hb hrow
  go_wp2
  go_ret
  refine ⟨⟨_, rfl, ?_⟩, HBz.out.alloc HBz.out.size _⟩
  intro Bx W m hm hB1 hB2 hk y J Jx W2 hW hA _ hY h0
  have hsz2 : w.heap.size + 1 + 1 ≤ w1.heap.size := hs0
  have hz := HBz.out.size
  refine (way_in m hm y w.heap.size w1.heap.size (w.heap.size + 1) Bx n l s (.slice ao' xs.length cp') xs ⟨has, ⟨k, h⟩, o, c⟩ J Jx (w1.alloc (.cells #[.slice ao' xs.length cp'] 44)) W2 ?_ ?_ ?_ ?_ (hk.trans (keepsBut_below hW)) hA (heap_old P.out) (heap_new rfl) (heap_old Q.out) ?_ hY h0).mono ?_
  · intro j hj; exact hB2 j (Nat.le_trans hW.size hj)
  · exact hB1 _ (Nat.le_refl _) (by simp; omega)
  · exact hB1 _ (by omega) (by simp)
  · exact hB1 _ (by omega) (by simp; omega)
  · intro W' hK
    refine Owns.of_row (B := w.heap.size) (row_stays (Row.below ?_ (below_new _)) hB1 hK)
    obtain ⟨h1, ⟨h2, h3⟩ | ⟨g, cap, cur, ha, h4, h5⟩⟩ := HR.out
    · exact ⟨h1, .inl ⟨h2, h3⟩⟩
    · exact ⟨h1, .inr ⟨g, cap, cur, ha, Nat.le_trans (by simp; omega) h4, h5⟩⟩
  · rintro e W' ⟨h1, ⟨ys, rfl, h2⟩ | ⟨pre, h2, h3⟩⟩
    · exact ⟨h1, .inl ⟨_, rfl, h2⟩⟩
    · exact ⟨h1, .inr ⟨pre, h2, h3⟩⟩
/-- Where a way stays. -/
def endAt (pre : List Ow) (o : Int) : Int := (pre.getLast?.map (·.node)).getD o
theorem heap_own {β : Type} (k : Nat) (o : β → Obj) (ho : ∀ s, (o s).isCells = true) : Own (fun s W => W.heap[k]? = some (o s)) := by
  rintro s X Y row h hg hrow
  refine (hg.block k (Array.getElem?_eq_some_iff.1 h).1 ?_).trans h
  intro e
  obtain ⟨o', h', hc⟩ := hrow k e.symm
  rw [h] at h'; cases h'; rw [ho] at hc; cases hc
def endsR (n l s : Int) (xs : List Ow) (x : Sk) : Int × Int := if askedOk n l s xs x then (endAt (wayR n l s xs x) x.origin, 0) else (0, 2)
theorem ends_any (n l s : Int) (v : Value) (xs : List Ow) (x : Sk) (w : World) (h : Owns w v xs) (hn : ∀ m c, v = .slice none m c → c = 0) (hsz : xs.length ≤ 1000) :
    Calls Try.prog 16 #[shapeV n l s, v, x.val] w fun e w' => e = .returned (.tuple #[.int .i64 (endsR n l s xs x).1, .int .i64 (endsR n l s xs x).2]) ∧ Below w.heap.size w w' := by
  have HAK := Lib.hid (fun w h => askedO_any n l s v xs x w h)
  have HWY := Lib.hid (fun w h => way_any n l s v xs x w h hn hsz)
  have HO := Lib.hid h
  have HE : Hid (endsR n l s xs x = if askedOk n l s xs x then (endAt (wayR n l s xs x) x.origin, 0) else (0, 2)) := rfl
  obtain ⟨ao, cp, rfl, hl, -⟩ := h
  generalize endsR n l s xs x = r at *
  generalize wayR n l s xs x = ys at *
  generalize askedOk n l s xs x = a at *
  obtain ⟨has, ⟨k, h⟩, o, c⟩ := x
  simp only [Sk.val, shapeV] at *
  clear hn
  cases a
  · have HR : Hid (r = (0, 2)) := Lib.hid (by simpa using HE.out)
    clear HE HWY
    go_enter Try.func16, Try.ntmps16
    go_wp2_with fail
    refine (HAK.out _ (HO.out.below ((below_new _).alloc (by simp) _) (Nat.le_refl _))).mono ?_
    rintro e w1 ⟨rfl, hb⟩
    have HBz := Lib.hid (((below_new _).alloc (by simp) _).trans (hb.mono (by simp; omega)))
    clear hb
    go_wp2
    go_ret2
    rw [HR.out]
    exact ⟨rfl, HBz.out⟩
  · have HR : Hid (r = (endAt ys o, 0)) := Lib.hid (by simpa using HE.out)
    clear HE
    refine (callsIn_wide (n := 3)).1 ?_
    refine callsIn_of_wp_marks Try.func16 rfl trivial ?_ rfl
    simp only [Try.ntmps16, List.size_toArray, List.length_cons, List.length_nil, Nat.reduceAdd, Nat.reduceSub, Array.replicate_succ, Array.replicate_zero, List.push_toArray, List.append_toArray, List.nil_append, List.cons_append]
    gi_wp2_with fail
    refine ⟨trivial, ?_⟩
    refine (callsIn_wide.2 (HAK.out _ (HO.out.below ((below_new _).alloc (by simp) _) (Nat.le_refl _)))).mono ?_
    rintro e w1 ⟨rfl, hb⟩
    have P := Lib.hid (heap_call hb (heap_old (heap_new (W := w) rfl)))
    have Q : Hid (w1.heap[w.heap.size + 1]? = some (.cells #[.bool has, .int .i64 k, .int .i64 h, .int .i64 o, .int .i64 c] 27)) := heap_call hb (heap_new (by simp))
    have HBz := Lib.hid (((below_new _).alloc (by simp) _).trans (hb.mono (by simp; omega)))
    have p0 : w1.cell? ⟨w.heap.size, 0, none⟩ = some (.int .i64 n) := cell_of P.out 0
    have p1 : w1.cell? ⟨w.heap.size, 1, none⟩ = some (.int .i64 l) := cell_of P.out 1
    have p2 : w1.cell? ⟨w.heap.size, 2, none⟩ = some (.int .i64 s) := cell_of P.out 2
    have q0 : w1.cell? ⟨w.heap.size + 1, 0, none⟩ = some (.bool has) := cell_of Q.out 0
    have q1 : w1.cell? ⟨w.heap.size + 1, 1, none⟩ = some (.int .i64 k) := cell_of Q.out 1
    have q2 : w1.cell? ⟨w.heap.size + 1, 2, none⟩ = some (.int .i64 h) := cell_of Q.out 2
    have q3 : w1.cell? ⟨w.heap.size + 1, 3, none⟩ = some (.int .i64 o) := cell_of Q.out 3
    have q4 : w1.cell? ⟨w.heap.size + 1, 4, none⟩ = some (.int .i64 c) := cell_of Q.out 4
    have hlt := heap_lt Q.out
    have hlt0 := heap_lt P.out
    clear hb
    gi_wp2_with fail
    refine ⟨trivial, ?_⟩
    refine (callsIn_wide.2 (HWY.out _ (HO.out.below (HBz.out.alloc HBz.out.size _) (Nat.le_refl _)))).mono ?_
    rintro e w2 ⟨⟨lb, rfl, hseq⟩, hb⟩
    have BX := Lib.hid (heap_call hb (heap_new (W := w1) (o := .cells #[.int .i64 o] 3) rfl))
    have hs2 := hb.size
    simp only [World.size_alloc] at hs2
    have HB2 := Lib.hid ((HBz.out.alloc HBz.out.size (.cells #[.int .i64 o] 3)).trans (hb.mono (by have := HBz.out.size; simp; omega)))
    have HSQ := Lib.hid hseq
    have hz1 := HBz.out.size
    clear hb p0 p1 p2 q0 q1 q2 q3 q4 hlt hlt0 hseq
    gi_wp2_with fail
    refine wpIn_rangeFunc_ownG rfl (by omega) (gf := 32) (lb := lb) rfl trivial (enters_of Try.func32 (by kernel_rfl) rfl)
      (HSQ.out (fun k => k = w1.heap.size) w2 _ (by omega) (by simp; omega) (by intro k hk e; omega) (KeepsBut.refl _ _))
      (fun h k => h.trans k) (fun W l o o' _ h h1 _ => keepsBut_b W l o o' h h1) (Below.refl _ _) (fun _ => rfl)
      (fun pre W => W.heap[w1.heap.size]? = some (.cells #[.int .i64 (endAt pre o)] 3) ∧ Below w.heap.size w W)
      (fun _ _ _ => False)
      (OwnFrom.and (Own.from (heap_own w1.heap.size (fun pre : List Ow => .cells #[.int .i64 (endAt pre o)] 3) (fun _ => rfl)) _) (ownFrom_below (Nat.le_refl _) (by omega)))
      (fun _ _ _ _ _ hs _ _ => hs)
      ⟨BX.out, HB2.out⟩
      (fun x => { tmps := #[.agg #[.int .i64 n, .int .i64 l, .int .i64 s], .slice ao xs.length cp, .agg #[.bool has, .int .i64 k, .int .i64 h, .int .i64 o, .int .i64 c], .pointer (some ⟨w.heap.size, 0, none⟩), undef, .pointer (some ⟨w.heap.size + 1, 0, none⟩), .int .i64 0, .int .i64 0, .pointer (some ⟨w1.heap.size, 0, none⟩), .int .i64 x.node, .agg #[.int .i64 n, .int .i64 l, .int .i64 s], .slice ao xs.length cp, .agg #[.bool has, .int .i64 k, .int .i64 h, .int .i64 o, .int .i64 c], .bool true, .bool false, .pointer (some ⟨w.heap.size + 1, 3, none⟩), .int .i64 o, .agg #[.int .i64 n, .int .i64 l, .int .i64 s], .slice ao xs.length cp, .agg #[.bool has, .int .i64 k, .int .i64 h, .int .i64 o, .int .i64 c], .func (.func 32) #[] lb, .int .i64 x.node, .int .i64 x.hop, undef, undef], defers := [] }) ?assign ?body ?done ?stop
    case assign =>
      intro l x W K hK
      gi_wp2
      exact hK
    case body =>
      rintro lx pre x W ⟨h1, hB⟩ hlt
      have hc := cell_of h1 0
      have hf := free_of h1 0
      simp only [List.getElem?_toArray, List.getElem?_cons_zero] at hc
      have HB := Lib.hid hB
      have HH := Lib.hid h1
      clear hB h1
      gi_wp2
      refine ⟨(KeepsOthers.setCell _ _ _).from _, keepsBut_set (Bx := fun k => k = w1.heap.size) rfl _ _, ?_, HB.out.setCell (by show w.heap.size ≤ w1.heap.size; omega) _⟩
      have h := heap_set (i := 0) (v := .int .i64 x.node) HH.out
      simp only [endAt, List.getLast?_append, List.getLast?_singleton]
      exact h
    case done =>
      rintro D ys' W hD rfl ⟨h1, hB⟩ hD0
      have hc := cell_of h1 0
      simp only [List.getElem?_toArray, List.getElem?_cons_zero] at hc
      have HB := Lib.hid hB
      have HR2 := Lib.hid HR.out
      clear hB h1
      gi_wp2
      refine ⟨by simp, .inl ⟨_, _, rfl, run_takeDeferred hD0, ?_⟩⟩
      refine ⟨.tuple #[.int .i64 (endAt ys' o), .int .i64 0], ?_, by rw [HR2.out], HB.out.trans (belowK_b (w := w) (Nat.le_refl _) _ D _ _ (by omega) hD0 rfl rfl)⟩
      simp [results, Try.results16, go_sem]
    case stop =>
      rintro D c pre W _ _ h _
      exact h.elim
end Go.Proofs.Ytoanpfbdhkgncaa
