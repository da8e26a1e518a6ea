/-
  PROVED: The contracts of owner.Way and its iterator: it yields the way, in order, till the loop is left. CONDITIONS: at most 1000 guesses, which lie in the world.
-/
import Derived.Test.YtoanpfbdhkgncaaJ
import Derived.RangeFuncBox
import Derived.RangeFuncLeaves
import Derived.RangeFuncCalls
import Derived.Shelf.Abstract
import Derived.Shelf.RegionOpen
import Derived.OwnWalkIn
import Derived.TacticsInMore
import Derived.LoopNIn
import Derived.LoopIn
import Derived.Deep.RegionHeld3
import Derived.Deep.QuietTactic
import Derived.BigQuiet
namespace Go.Proofs.Ytoanpfbdhkgncaa
open Go.RowKit
attribute [local go_sem] Oper.semAt_some
set_option maxRecDepth 100000
set_option maxHeartbeats 2000000
theorem wpIn_scope_wide {n : Nat} {P : Program} {c : Code} {Q : Exit → Act → World → Prop} {a : Act} {w : World} (h : c.wpIn Fence.wide n P (Exit.noGoto Q) a w) : (Code.scope c).wpIn Fence.wide n P Q a w :=
  wpIn_wide.2 (wp_scope_straight (wpIn_wide.1 h))
/-- What a round keeps: cells beside a caller's own. -/
def KeepsBut (Bx : Nat → Prop) (W W' : World) : Prop := W.heap.size ≤ W'.heap.size ∧ ∀ k o, ¬ Bx k → W.heap[k]? = some o → o.isCells = true → W'.heap[k]? = some o
theorem KeepsBut.refl (Bx : Nat → Prop) (W : World) : KeepsBut Bx W W := ⟨Nat.le_refl _, fun _ _ _ h _ => h⟩
theorem KeepsBut.trans {Bx : Nat → Prop} {X Y Z : World} (h : KeepsBut Bx X Y) (k : KeepsBut Bx Y Z) : KeepsBut Bx X Z := ⟨Nat.le_trans h.1 k.1, fun i o hi hx ho => k.2 i o hi (h.2 i o hi hx ho) ho⟩
theorem keepsBut_b {Bx : Nat → Prop} (W : World) (l : Nat) (o o' : Obj) (h : W.heap[l]? = some o) (h1 : o.isCells = false) : KeepsBut Bx W (W.putObj l o') :=
  ⟨(grownBy_putObj' W l o').size, fun k c _ hk hc => by
    refine (World.putObj_heap_other (fun e => ?_)).trans hk
    subst e
    rw [h] at hk; cases hk; rw [h1] at hc; cases hc⟩
theorem keepsBut_below {Bx : Nat → Prop} {W W' : World} (h : Below W.heap.size W W') : KeepsBut Bx W W' := ⟨h.size, fun _ _ _ hk _ => heap_call h hk⟩
theorem keepsBut_set {Bx : Nat → Prop} {b : Nat} {W : World} (h : Bx b) (o : Nat) (v : Value) : KeepsBut Bx W (W.setCell ⟨b, o, none⟩ v) :=
  ⟨(KeepsWalks.setCell W _ v).size, fun k c hk hx _ => (Below.heap_setCell _ _ _ _ (by intro e; subst e; exact hk h)).trans hx⟩
theorem keepC {W W' : World} (hb : Below W.heap.size W W') {p : Addr} {v : Value} (h : W.cell? p = some v) : W'.cell? p = some v := (hb.cell (World.block_lt_of_cell? W _ h)).trans h
theorem below_drewN {B : Nat} {w w' : World} (h : Below B w w') (n : Nat) : Below B w (w'.drewN n) := ⟨h.os, h.tape, h.output, h.size, h.block⟩
/-- The way of a status; nothing beside an error. -/
def wayR (n l s : Int) (xs : List Ow) (x : Sk) : List Ow := if askedOk n l s xs x then way xs x.origin x.origin x.hop else []
theorem asked_parts {n l s : Int} {xs : List Ow} {x : Sk} (h : askedOk n l s xs x = true) : (xs.length : Int) = n ∧ n ≤ 64 ∧ nodeOk n x.origin = true ∧ hopOk x.hop = true ∧ ∀ o ∈ xs, ownOk n l s o = true := by
  simp only [askedOk, Bool.and_eq_true, decide_eq_true_eq, List.all_eq_true] at h
  obtain ⟨⟨⟨⟨h1, h2⟩, h3⟩, h4⟩, h5⟩ := h
  exact ⟨h4, (shape_parts h1).2.1, h2, h3, h5⟩
theorem own_parts {n l s : Int} {o : Ow} (h : ownOk n l s o = true) : 0 ≤ o.node ∧ o.node < n ∧ hopOk o.hop = true := by
  simp only [ownOk, nodeOk, Bool.and_eq_true, decide_eq_true_eq] at h
  exact ⟨h.1.2.1, h.1.2.2, h.2⟩
theorem on_goes {n l s : Int} {xs : List Ow} {k : Nat} {h origin : Int} (hk : k < xs.length) (hn : (xs.length : Int) = n) (ho : nodeOk n origin = true) (hh : hopOk h = true) (hx : ownOk n l s xs[k] = true) :
    onR n l s k ⟨false, xs[k], origin, h⟩ = match goes xs origin k h with | none => (⟨0, 0⟩, false, 0) | some o => (o, true, 0) := by
  have h1 : thereOk n l s k origin = true := by
    have hs := ownOk_shape hx
    simp only [thereOk, hs, ho, Bool.true_and, Bool.and_true]
    simp [nodeOk]; omega
  unfold onR onStays goes
  rw [hx, h1, hh]
  simp only [Bool.true_and, if_true, Int.toNat_natCast, List.getElem?_eq_getElem hk, Bool.false_or]
  by_cases g : xs[k].node = (k : Int) ∨ xs[k].node = origin ∨ xs[k].hop ≤ h
  · rw [if_pos g, if_pos (by simpa [or_assoc] using g)]
  · rw [if_neg g, if_neg (by simpa [or_assoc] using g)]
theorem on_any2 (n l s me : Int) (x : Sk) (w : World) : Calls Try.prog 9 #[shapeV n l s, .int .i64 me, x.val] w fun e w' => e = .returned (.tuple #[.agg #[.int .i64 (onR n l s me x).1.node, .int .i64 (onR n l s me x).1.hop], .bool (onR n l s me x).2.1, .int .i64 (onR n l s me x).2.2]) ∧ Below w.heap.size w w' := on_any n l s me x w
theorem below_realloc {B : Nat} {w w2 : World} {o o' : Obj} (h : Below B w (w2.alloc o)) (hB : B ≤ w2.heap.size) : Below B w (w2.alloc o') :=
  ⟨h.os, h.tape, h.output, by have := h.size; simpa using this, fun i hi => (Below.heap_alloc _ _ _ (by omega)).trans ((Below.heap_alloc _ _ _ (by omega)).symm.trans (h.block i hi))⟩
theorem heap_set {W : World} {b i : Nat} {xs : Array Value} {t : TypeId} {v : Value} (h : W.heap[b]? = some (.cells xs t)) : (W.setCell ⟨b, i, none⟩ v).heap[b]? = some (.cells (xs.modify i fun _ => v) t) := by
  obtain ⟨hlt, hk⟩ := Array.getElem?_eq_some_iff.1 h
  show (W.heap.modify b _)[b]? = _
  rw [Array.getElem?_eq_getElem (by rw [Array.size_modify]; exact hlt), Array.getElem_modify_self, hk]
  rfl
/-- Behind the asking of On. -/
def WayMid (y Sb Ob Xb : Nat) (k : Nat) (h : Int) (r : Ow × Bool × Int) (wr : World) (u4 u10 u11 u12 u13 u14 u15 u16 u17 u18 : Value) (e : Exit) (a : Act) (w' : World) : Prop :=
  e = .normal ∧ ∃ (g : Nat) (u9 u19 u20 u21 u22 u23 u24 u25 u26 u27 u28 u29 u30 u31 u32 u33 u34 u35 u36 u37 u38 u39 u40 u41 u42 u43 u44 u45 u46 u47 u48 : Value), a = { tmps := #[.func (.yield y) #[] #[], .pointer (some ⟨Sb, 0, none⟩), .pointer (some ⟨Ob, 0, none⟩), .pointer (some ⟨Xb, 0, none⟩), u4, .int .i64 (k : Int), .int .i64 h, .pointer (some ⟨g, 0, none⟩), .bool r.2.1, u9, u10, u11, u12, u13, u14, u15, u16, u17, u18, u19, u20, u21, u22, u23, u24, u25, u26, u27, u28, u29, u30, u31, u32, u33, u34, u35, u36, u37, u38, u39, u40, u41, u42, u43, u44, u45, u46, u47, u48], defers := [] } ∧ w'.heap[g]? = some (.cells #[.int .i64 r.1.node, .int .i64 r.1.hop] 25) ∧ wr.heap.size ≤ g ∧ Below wr.heap.size wr w'
theorem way_in (m : Nat) (hm : 1 ≤ m) (y Sb Ob Xb : Nat) (Bx : Nat → Prop) (n l s : Int) (v : Value) (xs : List Ow) (x : Sk) (J Jx : List Ow → World → Prop) (w0 W : World) (hBx : ∀ k, W.heap.size ≤ k → ¬ Bx k) (hSb : ¬ Bx Sb) (hOb : ¬ Bx Ob) (hXb : ¬ Bx Xb)
    (hb0 : KeepsBut Bx w0 W) (hA : AbidesFrom W.heap.size J)
    (hP : w0.heap[Sb]? = some (.cells #[.int .i64 n, .int .i64 l, .int .i64 s] 23)) (hO : w0.heap[Ob]? = some (.cells #[v] 44))
    (hX : w0.heap[Xb]? = some (.cells #[.bool x.has, .int .i64 x.own.node, .int .i64 x.own.hop, .int .i64 x.origin, .int .i64 x.hop] 27)) (hL : ∀ W', KeepsBut Bx w0 W' → Owns W' v xs)
    (hY : ∀ pre (o : Ow) W1, J pre W1 → pre.length < (wayR n l s xs x).length → YieldAt Fence.wide (m - 1) Try.prog y #[.int .i64 o.node, .int .i64 o.hop] W1 fun e W' =>
      (e = .returned (.bool true) ∧ J (pre ++ [o]) W' ∧ KeepsBut Bx W1 W') ∨ (e = .returned (.bool false) ∧ Jx (pre ++ [o]) W'))
    (h0 : J [] W) :
    CallsIn Fence.wide m Try.prog 32 #[.func (.yield y) #[] #[], .pointer (some ⟨Sb, 0, none⟩), .pointer (some ⟨Ob, 0, none⟩), .pointer (some ⟨Xb, 0, none⟩)] W fun e W' => (∃ v, e = .returned v) ∧
      ((∃ ys, ys = wayR n l s xs x ∧ J ys W') ∨ (∃ pre, pre <+: wayR n l s xs x ∧ Jx pre W')) := by
  have HAK := Lib.hid (fun w h => askedO_any n l s v xs x w h)
  have HP := Lib.hid hP
  have HO := Lib.hid hO
  have HX := Lib.hid hX
  have HL := Lib.hid hL
  have HA := Lib.hid hA
  have H0 := Lib.hid h0
  have HY := Lib.hid hY
  have HB0 := Lib.hid hb0
  obtain ⟨ao, cp, rfl, hlen, -⟩ := hL _ hb0
  have p0 : W.cell? ⟨Sb, 0, none⟩ = some (.int .i64 n) := cell_of (HB0.out.2 _ _ hSb HP.out rfl) 0
  have p1 : W.cell? ⟨Sb, 1, none⟩ = some (.int .i64 l) := cell_of (HB0.out.2 _ _ hSb HP.out rfl) 1
  have p2 : W.cell? ⟨Sb, 2, none⟩ = some (.int .i64 s) := cell_of (HB0.out.2 _ _ hSb HP.out rfl) 2
  have o0 : W.cell? ⟨Ob, 0, none⟩ = some (.slice ao xs.length cp) := cell_of (HB0.out.2 _ _ hOb HO.out rfl) 0
  obtain ⟨has, ⟨k, h⟩, origin, c⟩ := x
  have q0 : W.cell? ⟨Xb, 0, none⟩ = some (.bool has) := cell_of (HB0.out.2 _ _ hXb HX.out rfl) 0
  have q1 : W.cell? ⟨Xb, 1, none⟩ = some (.int .i64 k) := cell_of (HB0.out.2 _ _ hXb HX.out rfl) 1
  have q2 : W.cell? ⟨Xb, 2, none⟩ = some (.int .i64 h) := cell_of (HB0.out.2 _ _ hXb HX.out rfl) 2
  have q3 : W.cell? ⟨Xb, 3, none⟩ = some (.int .i64 origin) := cell_of (HB0.out.2 _ _ hXb HX.out rfl) 3
  have q4 : W.cell? ⟨Xb, 4, none⟩ = some (.int .i64 c) := cell_of (HB0.out.2 _ _ hXb HX.out rfl) 4
  clear hP hO hX hA hY h0 hb0 hL
  cases hok : askedOk n l s xs ⟨has, ⟨k, h⟩, origin, c⟩ with
  | false =>
    have HW : Hid (wayR n l s xs ⟨has, ⟨k, h⟩, origin, c⟩ = []) := Lib.hid (by unfold wayR; rw [hok]; rfl)
    rw [hok] at HAK
    clear hok HY
    simp only [shapeV, Sk.val] at HAK
    refine callsIn_of_wp Try.func32 rfl trivial ?_ rfl
    simp only [Try.ntmps32, List.size_toArray, List.length_cons, List.length_nil, Nat.reduceAdd, Nat.reduceSub, Array.replicate_succ, Array.replicate_zero, List.push_toArray, List.append_toArray, List.nil_append, List.cons_append]
    refine wpIn_scope_wide ?_
    gi_wp2_with fail
    refine ⟨trivial, ?_⟩
    refine (callsIn_wide.2 (HAK.out _ (HL.out _ HB0.out))).mono ?_
    rintro e w1 ⟨rfl, hb⟩
    have HB1 := Lib.hid hb
    clear hb
    gi_wp2
    rw [Exit.noGoto_ret]
    refine bodyPost_ret (results_none rfl _ _ _) rfl ?_
    exact ⟨⟨_, rfl⟩, .inl ⟨_, HW.out.symm, HA.out _ _ _ none H0.out (grown_of_below HB1.out) (fun r e => by cases e)⟩⟩
  | true =>
    obtain ⟨hn, hn64, hno, hho, hall⟩ := asked_parts hok
    have HW : Hid (wayR n l s xs ⟨has, ⟨k, h⟩, origin, c⟩ = way xs origin origin c) := Lib.hid (by unfold wayR; rw [hok]; rfl)
    rw [hok] at HAK
    have HALL := Lib.hid hall
    have HN := Lib.hid hn
    have HNO := Lib.hid hno
    have HHO := Lib.hid hho
    have hxl : xs.length ≤ 64 := by omega
    have HO0 : Hid (0 ≤ origin ∧ origin < xs.length) := Lib.hid (by simp [nodeOk] at hno; omega)
    obtain ⟨og, hog⟩ := Int.eq_ofNat_of_zero_le HO0.out.1
    clear hok hall hn hno hho hn64
    subst hog
    simp only [shapeV, Sk.val] at HAK
    refine callsIn_of_wp Try.func32 rfl trivial ?_ rfl
    simp only [Try.ntmps32, List.size_toArray, List.length_cons, List.length_nil, Nat.reduceAdd, Nat.reduceSub, Array.replicate_succ, Array.replicate_zero, List.push_toArray, List.append_toArray, List.nil_append, List.cons_append]
    refine wpIn_scope_wide ?_
    gi_wp2_with fail
    refine ⟨trivial, ?_⟩
    refine (callsIn_wide.2 (HAK.out _ (HL.out _ HB0.out))).mono ?_
    rintro e w1 ⟨rfl, hb⟩
    have HB1 := Lib.hid hb
    have q3 := keepC hb q3
    have q4 := keepC hb q4
    clear hb p0 p1 p2 o0 q0 q1 q2
    gi_wp2
    refine wpIn_wide.2 ?_
    go_quiet (fail)
    gi_wp2_with fail
    refine wpIn_label ?_
    gi_wp2_with fail
    have HBq : Hid (KeepsBut Bx W (w1.drewN nq)) := Lib.hid (keepsBut_below (below_drewN HB1.out nq))
    have HJq : Hid (J [] (w1.drewN nq)) := Lib.hid (HA.out _ _ _ none H0.out (grown_of_below (below_drewN HB1.out nq)) (fun r e => by cases e))
    clear q3 q4
    gi_loopw [5, 6] (fun me c' wr => ∃ (pre : List Ow) (k' : Nat) (h' : Int), me = .int .i64 k' ∧ c' = .int .i64 h' ∧ k' < xs.length ∧ Hid (hopOk h' = true) ∧ Hid (Came xs og og c pre k' h') ∧ Hid (J pre wr) ∧ Hid (KeepsBut Bx W wr))
      (fun me c' _ => (way xs og (intOf me) (intOf c')).length)
    case atStart => exact ⟨[], og, c, rfl, rfl, by have := HO0.out; omega, HHO, Came.start, HJq, HBq⟩
    case round =>
      obtain ⟨pre, k', h', rfl, rfl, hk', HH', HC, HJ, HBr⟩ := hrel
      have HB := Lib.hid (HB0.out.trans HBr.out)
      have p0 : wr.cell? ⟨Sb, 0, none⟩ = some (.int .i64 n) := cell_of (HB.out.2 _ _ hSb HP.out rfl) 0
      have p1 : wr.cell? ⟨Sb, 1, none⟩ = some (.int .i64 l) := cell_of (HB.out.2 _ _ hSb HP.out rfl) 1
      have p2 : wr.cell? ⟨Sb, 2, none⟩ = some (.int .i64 s) := cell_of (HB.out.2 _ _ hSb HP.out rfl) 2
      have o0 : wr.cell? ⟨Ob, 0, none⟩ = some (.slice ao xs.length cp) := cell_of (HB.out.2 _ _ hOb HO.out rfl) 0
      have q3 : wr.cell? ⟨Xb, 3, none⟩ = some (.int .i64 (og : Int)) := cell_of (HB.out.2 _ _ hXb HX.out rfl) 3
      obtain ⟨ao2, cp2, e2, -, hc2⟩ := HL.out _ HB.out
      cases e2
      obtain ⟨b, off, rfl, hcell⟩ := hc2 (by omega)
      obtain ⟨d0, d1⟩ := hcell k' hk'
      have hg := on_goes (s := s) (l := l) hk' HN.out HNO.out HH'.out (HALL.out _ (List.getElem_mem hk'))
      have HON := Lib.hid (fun w => on_any2 n l s k' ⟨false, xs[k'], og, h'⟩ w)
      have hown := own_parts (HALL.out _ (List.getElem_mem hk'))
      clear hcell hc2
      generalize hx : xs[k'] = o at d0 d1 hg HON hown
      have HXK := Lib.hid hx
      obtain ⟨nd, hp⟩ := o
      generalize onR n l s k' ⟨false, ⟨nd, hp⟩, og, h'⟩ = r at hg HON
      simp only [shapeV, Sk.val] at HON
      have HG := Lib.hid hg
      have HOW := Lib.hid hown
      have KA : Hid (∀ w' : World, Below wr.heap.size wr w' → Below wr.heap.size wr w' ∧ w'.cell? ⟨Sb, 0, none⟩ = some (.int .i64 n) ∧ w'.cell? ⟨Sb, 1, none⟩ = some (.int .i64 l) ∧ w'.cell? ⟨Sb, 2, none⟩ = some (.int .i64 s) ∧ w'.cell? ⟨Ob, 0, none⟩ = some (.slice (some ⟨b, off, none⟩) xs.length cp) ∧ w'.cell? ⟨Xb, 3, none⟩ = some (.int .i64 (og : Int)) ∧ w'.cell? ⟨b, off + k' * 2, none⟩ = some (.int .i64 nd) ∧ w'.cell? ⟨b, off + k' * 2 + 1, none⟩ = some (.int .i64 hp)) := fun w' hb => ⟨hb, keepC hb p0, keepC hb p1, keepC hb p2, keepC hb o0, keepC hb q3, keepC hb d0, keepC hb d1⟩
      clear hg hown hx p0 p1 p2 o0 q3 d0 d1
      have hk0 : (0 : Int) ≤ (k' : Int) := by omega
      have hk1 : (k' : Int) < (xs.length : Int) := by omega
      gi_wp2_with fail
      refine wpIn_mono (Q := WayMid y Sb Ob Xb k' h' r wr undef (.agg #[.int .i64 n, .int .i64 l, .int .i64 s]) (.slice (some ⟨b, off, none⟩) xs.length cp) (.agg #[.bool has, .int .i64 k, .int .i64 h, .int .i64 (og : Int), .int .i64 c]) (.bool true) (.bool false) (.pointer (some ⟨Xb, 3, none⟩)) (.int .i64 (og : Int)) (.pointer (some ⟨Xb, 4, none⟩)) (.int .i64 c)) ?_ ?_
      · refine wpIn_wide.2 ?_
        go_region_held3 (fun w' => Below wr.heap.size wr w' ∧ w'.cell? ⟨Sb, 0, none⟩ = some (.int .i64 n) ∧ w'.cell? ⟨Sb, 1, none⟩ = some (.int .i64 l) ∧ w'.cell? ⟨Sb, 2, none⟩ = some (.int .i64 s) ∧ w'.cell? ⟨Ob, 0, none⟩ = some (.slice (some ⟨b, off, none⟩) xs.length cp) ∧ w'.cell? ⟨Xb, 3, none⟩ = some (.int .i64 (og : Int)) ∧ w'.cell? ⟨b, off + k' * 2, none⟩ = some (.int .i64 nd) ∧ w'.cell? ⟨b, off + k' * 2 + 1, none⟩ = some (.int .i64 hp))
          ((refine KA.out _ ?_; first | exact (Below.refl _ _).drew | exact (below_new _).drew | (go_split_ands; first | (refine Below.alloc ?_ ?_ _; assumption; exact Below.size (by assumption)) | (refine Below.trans ?_ (Below.mono hb ?_); assumption; exact Below.size (by assumption)) | (refine Below.setCell (Below.setCell ?_ ?_ _) ?_ _; assumption; exact Nat.le_refl _; exact Nat.le_refl _) | (refine below_realloc (o := .cells #[.int .i64 0, .int .i64 0] 25) ?_ ?_; assumption; (have hs := hb.size; simp at hs; omega)))))
          ((go_at_call 9; refine (HON.out _).mono ?_; rintro e w2 ⟨rfl, hb⟩; first | (have bx : w2.heap[wr.heap.size]? = some (.cells #[.int .i64 0, .int .i64 0] 25) := heap_call hb (heap_new (W := wr) (o := .cells #[.int .i64 0, .int .i64 0] 25) rfl); have bc0 : w2.cell? ⟨wr.heap.size, 0, none⟩ = some (.int .i64 0) := cell_of bx 0; have bc1 : w2.cell? ⟨wr.heap.size, 1, none⟩ = some (.int .i64 0) := cell_of bx 1; have bf0 := free_of bx 0; have bf1 := free_of bx 1) | skip))
        · exact ⟨rfl, w2.heap.size, _, _, _, _, _, _, _, _, _, _, _, _, _, _, _, _, _, _, _, _, _, _, _, _, _, _, _, _, _, _, _, rfl, heap_new rfl, by have hs := hb.size; simpa using hs, (by assumption : Below _ _ _ ∧ _).1⟩
        · exact ⟨rfl, wr.heap.size, _, _, _, _, _, _, _, _, _, _, _, _, _, _, _, _, _, _, _, _, _, _, _, _, _, _, _, _, _, _, _, rfl, heap_set (heap_set bx), Nat.le_refl _, (by assumption : Below _ _ _ ∧ _).1⟩
      · rintro e a w' ⟨rfl, g, u9, u19, u20, u21, u22, u23, u24, u25, u26, u27, u28, u29, u30, u31, u32, u33, u34, u35, u36, u37, u38, u39, u40, u41, u42, u43, u44, u45, u46, u47, u48, rfl, hbox, hge, hbw⟩
        have HBW := Lib.hid hbw
        have HBX := Lib.hid hbox
        have HJ2 := Lib.hid (HA.out _ _ _ none HJ.out (grown_of_below hbw) (fun r e => by cases e))
        have HBG : Hid (¬ Bx g) := Lib.hid (hBx g (by have := HBr.out.1; omega))
        have HBw : Hid (KeepsBut Bx W w') := Lib.hid (HBr.out.trans (keepsBut_below hbw))
        clear hbw hbox hge HON KA
        cases hgo : goes xs og k' h' with
        | none =>
          have hr := HG.out
          rw [hgo] at hr
          subst hr
          have HWE : Hid (wayR n l s xs ⟨has, ⟨k, h⟩, og, c⟩ = pre) := Lib.hid (by rw [HW.out, HC.out.way, way_none hgo, List.append_nil])
          clear hgo HG
          gi_wp2
          refine ⟨fun _ h => (by cases h), ?_⟩
          gi_wp2
          simp only [Exit.noGoto]
          go_end0
          exact ⟨⟨_, rfl⟩, .inl ⟨_, HWE.out.symm, HJ2.out⟩⟩
        | some o =>
          have hr := HG.out
          rw [hgo] at hr
          obtain ⟨hm1, hm2, -, -, hm3⟩ := goes_some hgo
          have ho : o = ⟨nd, hp⟩ := by
            rw [Int.toNat_natCast, List.getElem?_eq_getElem hk', HXK.out] at hm3
            exact (Option.some.inj hm3).symm
          subst ho
          subst hr
          obtain ⟨hw1, hw2, hw3⟩ := HOW.out
          obtain ⟨k2, hk2⟩ := Int.eq_ofNat_of_zero_le hw1
          (try simp only at hk2)
          subst hk2
          have HWE : Hid (wayR n l s xs ⟨has, ⟨k, h⟩, og, c⟩ = pre ++ (⟨(k2 : Int), hp⟩ :: way xs og k2 hp)) := Lib.hid (by rw [HW.out, HC.out.way, way_some hgo])
          have HM : Hid ((way xs og k' h').length = (way xs og k2 hp).length + 1) := Lib.hid (by rw [way_some hgo]; rfl)
          have HC2 : Hid (Came xs og og c (pre ++ [⟨(k2 : Int), hp⟩]) k2 hp) := Lib.hid (HC.out.step hgo)
          have HK2 : Hid (k2 < xs.length ∧ hopOk hp = true) := Lib.hid ⟨by have := HN.out; (try simp at hw2); omega, hw3⟩
          have c0 : w'.cell? ⟨g, 0, none⟩ = some (.int .i64 (k2 : Int)) := cell_of HBX.out 0
          have c1 : w'.cell? ⟨g, 1, none⟩ = some (.int .i64 hp) := cell_of HBX.out 1
          obtain ⟨fn, tmps, assign, body, hy, hR⟩ := HY.out pre ⟨(k2 : Int), hp⟩ w' HJ2.out (by rw [HWE.out]; simp)
          clear hgo HG hm1 hm2 hm3 hw1 hw2 hw3 HOW HXK
          (try simp only at hy)
          gi_wp2
          refine hR.mono ?_
          rintro e W3 (⟨rfl, hJ3, hk3⟩ | ⟨rfl, hJx3⟩)
          · have HJ3 := Lib.hid hJ3
            have HBX3 := Lib.hid (hk3.2 g _ HBG.out HBX.out rfl)
            have HB3 := Lib.hid (HBw.out.trans hk3)
            have c0 : W3.cell? ⟨g, 0, none⟩ = some (.int .i64 (k2 : Int)) := cell_of HBX3.out 0
            have c1 : W3.cell? ⟨g, 1, none⟩ = some (.int .i64 hp) := cell_of HBX3.out 1
            clear hJ3 hk3
            gi_wp2
            refine wpIn_wide.2 ?_
            go_quiet (fail)
            gi_wp2
            go_roundw
            case rel => exact ⟨_, k2, hp, rfl, rfl, HK2.out.1, HK2.out.2, HC2, HA.out _ _ _ none HJ3.out (grown_of_below (below_drewN (Below.refl _ _) _)) (fun r e => by cases e), HB3.out.trans (keepsBut_below (below_drewN (Below.refl _ _) _))⟩
            case measure =>
              show (way xs og (k2 : Int) hp).length < (way xs og (k' : Int) h').length
              rw [HM.out]; omega
          · have HJ3 := Lib.hid hJx3
            clear hJx3
            gi_wp2
            simp only [Exit.noGoto]
            go_end0
            exact ⟨⟨_, rfl⟩, .inr ⟨_, by rw [HWE.out]; exact ⟨way xs og k2 hp, by simp⟩, HJ3.out⟩⟩
end Go.Proofs.Ytoanpfbdhkgncaa
