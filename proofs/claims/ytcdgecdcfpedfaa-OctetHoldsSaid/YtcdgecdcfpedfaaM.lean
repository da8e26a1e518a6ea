/-
  PROVED: Contracts of slices.Values over texts and of octet.List, which ranges over it. CONDITIONS: at most 200 texts, each of at most 3000 bytes.
-/
import Derived.Test.YtcdgecdcfpedfaaL
import Derived.RangeFuncBox
import Derived.RangeFuncLeaves
import Derived.RangeFuncCalls
import Derived.Shelf.Abstract
import Derived.Shelf.RegionOpen
import Derived.OwnWalkIn
import Derived.TacticsInMore
import Derived.LoopNIn
import Derived.LoopIn
namespace Go.Proofs.Ytcdgecdcfpedfaa
open Go.RowKit Oc
attribute [local go_sem] Oper.semAt_some

def upto {α : Type} (f : Nat → α) (k : Nat) : List α := (List.range k).map f
theorem upto_succ {α : Type} (f : Nat → α) (k : Nat) : upto f (k + 1) = upto f k ++ [f k] := by simp [upto, List.range_succ]
theorem upto_length {α : Type} (f : Nat → α) (k : Nat) : (upto f k).length = k := by simp [upto]
theorem upto_take {α : Type} (zs : List α) (f : Nat → α) (hf : ∀ j x, zs[j]? = some x → f j = x) {k : Nat} (hk : k ≤ zs.length) : upto f k = zs.take k := by
  apply List.ext_getElem
  · simp [upto, hk]
  · intro i h1 h2
    have : i < zs.length := by simp [upto] at h1; omega
    have := hf i zs[i] (List.getElem?_eq_getElem this)
    simp [upto, this]

set_option maxRecDepth 100000 in
set_option maxHeartbeats 2000000 in
/-- The closure of slices.Values over texts, for every loop body that keeps what lay below n₀. -/
theorem values1_in (F : Fence) (n : Nat) (h7 : F.fn 47) (hro : F.round = none) (hn : 1 ≤ n) {α : Type} (val : α → ByteArray) (f : Nat → α) (l Bs n₀ b off len cap : Nat) (hreach : len ≤ 9223372036854775807) (hb : b < n₀) (J Jx : List α → World → Prop)
    (hY : ∀ pre x W, J pre W → pre.length < len → YieldAt F (n - 1) Try.prog l #[.string (val x)] W fun e W' =>
      (e = .returned (.bool true) ∧ J (pre ++ [x]) W' ∧ Below n₀ W W') ∨ (e = .returned (.bool false) ∧ Jx (pre ++ [x]) W'))
    (W : World) (hBs : W.cell? ⟨Bs, 0, none⟩ = some (.slice (some ⟨b, off, none⟩) len cap)) (hc : ∀ j, j < len → W.cell? ⟨b, off + j, none⟩ = some (.string (val (f j)))) (h0 : J [] W) :
    CallsIn F n Try.prog 47 #[.func (.yield l) #[] #[], .pointer (some ⟨Bs, 0, none⟩)] W fun e W' => (∃ v, e = .returned v) ∧
      ((∃ ys, ys = upto f len ∧ J ys W') ∨ (∃ pre, (∃ k, k ≤ len ∧ pre = upto f k) ∧ Jx pre W')) := by
  refine callsIn_of_wp Try.func47 rfl h7 ?_ hro
  simp only [Try.ntmps47, List.size_toArray, List.length_cons, List.length_nil, Nat.reduceAdd, Nat.reduceSub, Array.replicate_succ, Array.replicate_zero, List.push_toArray, List.append_toArray, List.nil_append, List.cons_append]
  gi_wp2
  gi_loopw [7] (fun i wr => ∃ k : Nat, k ≤ len ∧ i = .int .i64 k ∧ J (upto f k) wr ∧ Below n₀ W wr)
    (fun i _ => len - (intOf i).toNat)
  case atStart => exact ⟨0, Nat.zero_le _, rfl, h0, Below.refl _ _⟩
  case round =>
    obtain ⟨k, hk, rfl, hJs, hnx⟩ := hrel
    have hcx : k < len → wr.cell? ⟨b, off + k, none⟩ = some (.string (val (f k))) := fun h => (hnx.cell (p := ⟨b, off + k, none⟩) hb).trans (hc k h)
    by_cases hlt : k < len
    · obtain ⟨fn, tmps, assign, body, hy, hR⟩ := hY _ (f k) wr hJs (by rw [upto_length]; exact hlt)
      have hcx' := hcx hlt
      gi_wp2
      refine hR.mono ?_
      rintro e W3 (⟨rfl, hJ3, hk3⟩ | ⟨rfl, hJx3⟩)
      · gi_wp2
        go_roundw
        case rel => exact ⟨k + 1, by omega, by simp, by rw [upto_succ]; exact hJ3, hnx.trans hk3⟩
        case measure => simp [intOf]; omega
      · gi_wp2
        refine bodyPost_ret (results_none rfl _ _ _) rfl ?_
        exact ⟨⟨_, rfl⟩, .inr ⟨_, ⟨k + 1, by omega, (upto_succ _ _).symm⟩, hJx3⟩⟩
    · obtain rfl : k = len := by omega
      gi_wp2
      go_end0
      exact ⟨⟨_, rfl⟩, .inl ⟨_, rfl, hJs⟩⟩

set_option maxRecDepth 100000 in
set_option maxHeartbeats 1000000 in
/-- .. at a slice of no length: no round. -/
theorem values1_nil_in (F : Fence) (n : Nat) (h7 : F.fn 47) (hro : F.round = none) {α : Type} (l Bs : Nat) (a : Option Addr) (cap : Nat) (J : List α → World → Prop) (W : World) (hBs : W.cell? ⟨Bs, 0, none⟩ = some (.slice a 0 cap)) (h0 : J [] W) :
    CallsIn F n Try.prog 47 #[.func (.yield l) #[] #[], .pointer (some ⟨Bs, 0, none⟩)] W fun e W' => (∃ v, e = .returned v) ∧ J [] W' := by
  refine callsIn_of_wp Try.func47 rfl h7 ?_ hro
  simp only [Try.ntmps47, List.size_toArray, List.length_cons, List.length_nil, Nat.reduceAdd, Nat.reduceSub, Array.replicate_succ, Array.replicate_zero, List.push_toArray, List.append_toArray, List.nil_append, List.cons_append]
  gi_wp2
  gi_loopw [7] (fun i wr => i = .int .i64 0 ∧ J [] wr) (fun _ _ => 0)
  case atStart => exact ⟨rfl, h0⟩
  case round =>
    obtain ⟨rfl, hJs⟩ := hrel
    gi_wp2
    go_end0
    exact ⟨⟨_, rfl⟩, hJs⟩

set_option maxHeartbeats 1000000 in
theorem values_in (F : Fence) (n : Nat) (h5 : F.fn 40) (hro : F.round = none) (a : Option Addr) (len cap : Nat) (w : World) :
    CallsIn F n Try.prog 40 #[.slice a len cap] w fun e w' => e = .returned (.func (.func 47) #[] #[.pointer (some ⟨w.heap.size, 0, none⟩)]) ∧ w' = w.alloc (.cells #[.slice a len cap] 46) := by
  refine callsIn_of_wp Try.func40 rfl h5 ?_ hro
  simp only [Try.ntmps40, List.size_toArray, List.length_cons, List.length_nil, Nat.reduceAdd, Nat.reduceSub, Array.replicate_succ, Array.replicate_zero, List.push_toArray, List.append_toArray, List.nil_append, List.cons_append]
  gi_wp2
  go_ret
  exact ⟨rfl, rfl⟩

theorem Texts.below {w w' : World} {v : Value} {l : List ByteArray} (h : Texts w v l) (hb : Below w.heap.size w w') : Texts w' v l := by
  obtain ⟨ao, cp, hv, hl, hc⟩ := h
  refine ⟨ao, cp, hv, hl, fun h0 => ?_⟩
  obtain ⟨b, off, ha, hc⟩ := hc h0
  exact ⟨b, off, ha, fun i hi => (hb.cell (World.block_lt_of_cell? w _ (hc i hi))).trans (hc i hi)⟩

/-- slices.Values(l): all of l, in order; or a prefix. -/
theorem values_stops (F : Fence) (n : Nat) (h7 : F.fn 47) (hro : F.round = none) (hn : 1 ≤ n) {α : Type} (val : α → ByteArray) (Bs n₀ : Nat) (sv : Value) (zs : List α) (w w0 : World) (hBs : Bs < w.heap.size) (_hn₀ : n₀ ≤ w.heap.size) (h0 : w0.heap.size ≤ n₀)
    (hc : w.cell? ⟨Bs, 0, none⟩ = some sv) (hI : Texts w0 sv (zs.map val)) (hb0 : Below w0.heap.size w0 w) :
    SeqStopsK F n Try.prog 47 #[.pointer (some ⟨Bs, 0, none⟩)] (fun x : α => #[Value.string (val x)]) (Below n₀) (fun ys => ys = zs) (fun pre => pre <+: zs) zs.length w := fun l J Jx W hW _ _ hY h0' => by
  have hc' := (hW.cell (p := ⟨Bs, 0, none⟩) hBs).trans hc
  obtain ⟨ao, cp, rfl, hl, hcs⟩ := hI
  rw [List.length_map] at hl hcs hc'
  by_cases hz : zs.length = 0
  · obtain rfl : zs = [] := List.length_eq_zero_iff.1 hz
    exact (values1_nil_in F n h7 hro l Bs ao cp J W hc' h0').mono fun e W' ⟨he, hj⟩ => ⟨he, .inl ⟨_, rfl, hj⟩⟩
  · obtain ⟨b, off, rfl, hcell⟩ := hcs (by omega)
    have hbl : b < w0.heap.size := World.block_lt_of_cell? w0 _ (hcell 0 (by omega))
    have hle := hb0.size
    have hd : 0 < zs.length := by omega
    have hf : ∀ (j : Nat) (x : α), zs[j]? = some x → (fun j : Nat => (zs[j]?).getD zs[0]) j = x := fun j x h => by simp [h]
    refine (values1_in F n h7 hro hn val (fun j : Nat => (zs[j]?).getD zs[0]) l Bs n₀ b off zs.length cp hl (by omega) J Jx hY W hc' (fun j hj => ?_) h0').mono ?_
    · have h1 := hcell j hj
      rw [(hW.cell (p := ⟨b, off + j, none⟩) (show b < w.heap.size by omega)), hb0.cell (p := ⟨b, off + j, none⟩) hbl, h1]
      simp [List.getD, List.getElem?_eq_getElem hj]
    · rintro e W' ⟨he, ⟨ys, rfl, hj⟩ | ⟨pre, ⟨k, hk, rfl⟩, hj⟩⟩
      · exact ⟨he, .inl ⟨_, by rw [upto_take zs _ hf (Nat.le_refl _), List.take_length], hj⟩⟩
      · exact ⟨he, .inr ⟨_, by rw [upto_take zs _ hf hk]; exact List.take_prefix _ _, hj⟩⟩

theorem operIn_append_own {F : Fence} {n : Nat} {P : Program} (w : World) {o : Oper} {a : Act} {K : Act → World → Prop} {Q : Exit → Act → World → Prop}
    (s x : Operand) (t : TypeId) (hop : o.op = Op.call { callee := Callee.builtin Builtin.append, args := #[s, x], argTypes := #[t, t] })
    (base : Nat) (e : TypeId) (i : TypeInfo) (z : Value) (size bytes : Nat) (h1 : P.underlying t = some (.slice e)) (h2 : P.info? e = some i) (h3 : i.zero = some z) (h4 : i.size = size) (h5 : i.bytes = bytes) (h6 : z.cells.size = size) (h7 : 0 < size)
    (v : Value) (k : Nat) (xs : List Value) (hs : a.eval s = v) (hown : w.ownsRow base e size v k xs) (ad : Addr) (m c : Nat) (news : List Value) (hx : a.eval x = .slice (some ad) m c) (hn : news.length = m * size)
    (hc : ∀ j u, news[j]? = some u → w.cell? (ad.add j) = some u) (h1c : ∀ u ∈ news, u.oneCell' = true) (b1 : k + m ≤ maxLen) (b2 : (k + m) * bytes ≤ 140737488355328) (b3 : base ≤ w.heap.size)
    (hK : ∀ v' w', w'.ownsRow base e size v' (k + m) (xs ++ news) → w.grownBy w' v.ownBlock → (v' = .slice none 0 0 ↔ v = .slice none 0 0 ∧ m = 0) → K (a.put o.dst v') w') :
    Oper.wpIn F n P o a w K Q := by
  obtain ⟨v', w', hrun, r1, r2, r3⟩ := run_append_own (P := P) w base t o.type e i z size bytes h1 h2 h3 h4 h5 h6 h7 v k xs hown ad m c news hn hc h1c b1 b2 b3
  unfold Oper.wpIn
  refine ⟨?_, ?_⟩
  · simp [Oper.about, hop, resolve, Target.leads, Sem.run_pure]
  · rw [Oper.semAt_plain F _ _ (by rw [hop]; intro c hc'; cases hc')]
    simp [execOp, hop, resolve, invoke, builtin, hs, hx, hrun, Result.andThen]
    exact hK v' w' r1 r2 r3

/-- A text that is no longer than 3000 bytes. -/
abbrev Short := { s : ByteArray // s.size ≤ 3000 }
/-- What has been gathered. -/
def encPre (k : Nat) (pre : List Short) : List Int := enc k ++ (pre.map fun s => encText s.1).flatten
theorem encPre_snoc (k : Nat) (pre : List Short) (s : Short) : encPre k (pre ++ [s]) = encPre k pre ++ encText s.1 := by
  simp [encPre, List.map_append, List.flatten_append, List.append_assoc]
theorem encText_len (s : Short) : (encText s.1).length ≤ 3010 := by
  have h1 := enc_len10 (n := s.1.size) (by have := s.2; omega)
  have h2 := s.2
  simp only [encText, List.length_append, nums_length]; omega
theorem encPre_len (k : Nat) (hk : k < 18446744073709551616) : ∀ (pre : List Short), (encPre k pre).length ≤ 10 + 3010 * pre.length := by
  intro pre
  have h1 := enc_len10 hk
  have : ∀ pre : List Short, ((pre.map fun s => encText s.1).flatten).length ≤ 3010 * pre.length := by
    intro pre
    induction pre with
    | nil => simp
    | cons s t ih =>
      have := encText_len s
      simp only [List.map_cons, List.flatten_cons, List.length_append, List.length_cons]; omega
  have := this pre
  simp only [encPre, List.length_append]; omega

theorem listbody {w W w3 w4 : World} {B B2 : Nat} {v v' : Value} {k m m' : Nat} {xs ys ys' : List Value}
    (hv : Boxed W B 23 v) (hv4 : Boxed w4 B 23 v) (hrow : W.ownsRow w.heap.size 5 1 v k xs) (hB : Below w.heap.size w W) (hb3 : Below W.heap.size W.drew w3) (HR3 : w3.ownsRow w.heap.size 5 1 v k xs)
    (hgrow : w3.grownBy w4 v.ownBlock) (hown' : w4.ownsRow w.heap.size 5 1 v' m ys) (hm : m' = m) (hy : ys' = ys) (hs : w.heap.size ≤ B) :
    KeepsFrom B2 W (w4.setCell ⟨B, 0, none⟩ v') ∧ Below w.heap.size W (w4.setCell ⟨B, 0, none⟩ v') ∧
      (∃ v, Boxed (w4.setCell ⟨B, 0, none⟩ v') B 23 v ∧ (w4.setCell ⟨B, 0, none⟩ v').ownsRow w.heap.size 5 1 v m' ys' ∧ True) ∧ Below w.heap.size w (w4.setCell ⟨B, 0, none⟩ v') := by
  subst hm hy
  have h1 : Below w.heap.size W w3 := (⟨hb3.os, hb3.tape, hb3.output, hb3.size, fun i hi => hb3.block i (Nat.lt_of_lt_of_le hi hB.size)⟩ : Below w.heap.size W w3)
  have h2 : Below w.heap.size W (w4.setCell ⟨B, 0, none⟩ v') := (h1.grown hgrow (Nat.le_trans hB.size h1.size) (fun k hk => (HR3.lt k hk).1)).setCell (p := ⟨B, 0, none⟩) hs v'
  refine ⟨KeepsOthers.from ?_ _, h2, ⟨v', hv4.set v', hown'.kept (grownBy_setCell' w4 B v') (.inr (hv4.not_row (by decide) hown').symm), trivial⟩, hB.trans h2⟩
  have k1 : KeepsOthers W w3 := KeepsOthers.of_grownBy (row := none) ⟨hb3.os, hb3.tape, hb3.output, hb3.size, fun i hi _ => hb3.block i hi⟩ (fun j o e _ => by cases e)
  refine (k1.trans (KeepsOthers.of_grownBy hgrow fun j o ej hj => ?_)).trans (KeepsOthers.setCell _ _ _)
  rcases HR3.2 with ⟨rfl, _⟩ | ⟨g, cap, cur, rfl, _, hgb, _⟩
  · simp [Value.ownBlock] at ej
  · obtain rfl : g = j := by simpa [Value.ownBlock] using ej
    rw [hgb] at hj; cases hj; rfl
set_option maxRecDepth 100000 in
set_option maxHeartbeats 2000000 in
theorem list_any (v : Value) (l : List Short) (w : World) (hl : Texts w v (l.map Subtype.val)) (hls : l.length ≤ 200) : Calls Try.prog 26 #[v] w (RowPost w.heap.size w (encList (l.map Subtype.val))) := by
  obtain ⟨i0, hi, hz0, hz1, hz2⟩ := info_parts Try.info5
  have hlt := hl
  obtain ⟨ao, cp, rfl, hlm, hc⟩ := hl
  rw [List.length_map] at hlm hlt
  have HT := Lib.hid hlt
  have hmx : Try.prog.follows .mixedOrders = true := by kernel_rfl
  have HE : Hid (encList (l.map Subtype.val) = encPre l.length l) := by show _ = _; simp [encList, encPre]
  rw [List.length_map]
  clear hc hlt
  refine (callsIn_wide (n := 3)).1 ?_
  refine callsIn_of_wp_marks Try.func26 rfl trivial ?_ rfl
  simp only [Try.ntmps26, List.size_toArray, List.length_cons, List.length_nil, Nat.reduceAdd, Nat.reduceSub, Array.replicate_succ, Array.replicate_zero, List.push_toArray, List.append_toArray, List.nil_append, List.cons_append]
  gi_wp2_with fail
  refine ⟨trivial, ?_⟩
  refine (callsIn_wide.2 (number_any l.length (by omega) _)).mono ?_
  rintro e w1 ⟨v1, rfl, hown1, hb1⟩
  obtain ⟨g1, cp1, rfl, hg1, hgc1, hgm1⟩ := row_addr hown1 (enc_pos _)
  have HB1 := Lib.hid hb1
  have HO1 := Lib.hid hown1
  clear hb1 hown1
  gi_wp2_with fail
  refine ⟨trivial, ?_⟩
  refine (values_in Fence.wide _ trivial rfl _ _ _ _).mono ?_
  rintro e w2 ⟨rfl, rfl⟩
  gi_wp2_with fail
  have bS := Boxed.new w1 23 (.slice (some ⟨g1, 0, none⟩) (enc l.length).length cp1)
  have bN := Boxed.new (w1.alloc (.cells #[.slice (some ⟨g1, 0, none⟩) (enc l.length).length cp1] 23)) 46 (.slice ao l.length cp)
  rw [World.size_alloc] at bN
  have hs1 := HB1.out.size
  have hB0 : Below w.heap.size w ((w1.alloc (.cells #[.slice (some ⟨g1, 0, none⟩) (enc l.length).length cp1] 23)).alloc (.cells #[.slice ao l.length cp] 46)) := (HB1.out.alloc hs1 _).alloc (by simp; omega) _
  refine wpIn_rangeFunc_ownG rfl (by omega) (gf := 47) (lb := #[.pointer (some ⟨w1.heap.size + 1, 0, none⟩)]) rfl trivial (enters_of Try.func47 (by kernel_rfl) rfl)
    (values_stops Fence.wide _ trivial rfl (by omega) Subtype.val (w1.heap.size + 1) w.heap.size _ l _ w (by simp) (by simp; omega) (Nat.le_refl _) bN.cell HT.out hB0) belowK_t (belowK_b (by simp; omega)) (Below.refl _ _) (fun _ => rfl)
    (fun pre W => (∃ v, Boxed W w1.heap.size 23 v ∧ W.ownsRow w.heap.size 5 1 v (encPre l.length pre).length ((encPre l.length pre).map (Value.int .u8)) ∧ True) ∧ Below w.heap.size w W)
    (fun _ _ _ => False)
    (OwnFrom.and (Own.from (holdsRow_own w.heap.size w1.heap.size 23 5 1 (fun pre => (encPre l.length pre).length) (fun pre => (encPre l.length pre).map (Value.int .u8)) (fun _ _ => True)) _) (ownFrom_below (Nat.le_refl _) (by simp; omega)))
    (fun _ _ _ _ _ hs _ _ => hs)
    ⟨⟨_, bS.alloc _, by have h := ((HO1.out.alloc (.cells #[.slice (some ⟨g1, 0, none⟩) (enc l.length).length cp1] 23)).alloc (.cells #[.slice ao l.length cp] 46)); simpa [encPre] using h, trivial⟩, hB0⟩
    (fun x => { tmps := #[.slice ao l.length cp, undef, .slice none 0 0, .pointer (some ⟨w1.heap.size, 0, none⟩), .string x.1, .slice ao l.length cp, .int .i64 l.length, .int .u64 l.length, .slice (some ⟨g1, 0, none⟩) (enc l.length).length cp1, .slice ao l.length cp, .func (.func 47) #[] #[.pointer (some ⟨w1.heap.size + 1, 0, none⟩)], .string x.1, undef, undef, undef, undef, undef], defers := [] }) ?assign ?body ?done ?stop
  case assign =>
    intro l x W K hK
    gi_wp2
    exact hK
  case body =>
    rintro lx pre x W ⟨⟨v, hv, hrow, _⟩, hB⟩ hlt
    have hc := hv.cell
    have HX : Hid (x.1.size ≤ 100000) := Lib.hid (by have := x.2; omega)
    have hpl := encPre_len l.length (by omega) pre
    have hxl := encText_len x
    gi_wp2
    refine wpIn_region_any hmx ?_
    change wpAnyIn _ _ _ _ _ _ _ _ _ (World.drew _)
    refine wpAnyIn_ready (rs := [0, 1]) (by kernel_rfl) (by simp) ?_
    refine AllReadyIn.cons rfl (fun K hK => ?_) (AllReadyIn.cons rfl (fun K hK => ?_) AllReadyIn.nil)
    · go_simp
      refine hK _ _ ?_
      clear hK K
      refine wpAnyIn_ready (rs := [1]) (by kernel_rfl) (by simp) ?_
      refine AllReadyIn.cons rfl (fun K hK => ?_) AllReadyIn.nil
      go_simp
      refine hK _ _ ?_
      clear hK K
      refine wpAnyIn_ready (rs := [2]) (by kernel_rfl) (by simp) ?_
      refine AllReadyIn.cons rfl (fun K hK => ?_) AllReadyIn.nil
      go_simp
      refine ⟨trivial, (CallsIn.inRound lx (callsIn_wide.2 (text_any x.1 HX.out W.drew))).mono ?_⟩
      rintro e w3 ⟨v3, rfl, ho3, hb3⟩
      obtain ⟨g3, cp3, rfl, hg3, hgc3, hgm3⟩ := row_addr ho3 (encText_pos _)
      have hv3 : Boxed w3 w1.heap.size 23 v := hv.kept (row := none) ⟨hb3.os, hb3.tape, hb3.output, hb3.size, fun i hi _ => hb3.block i hi⟩ (by simp)
      have hc3 := hv3.cell
      refine hK _ _ ?_
      clear hK K
      refine wpAnyIn_ready (rs := [3]) (by kernel_rfl) (by simp) ?_
      refine AllReadyIn.cons rfl (fun K hK => ?_) AllReadyIn.nil
      refine (if_pos rfl).mpr ?_
      have HR3 := row_kept hrow.drew hb3
      have hz3 := hb3.size
      refine operIn_append_own _ _ _ 23 rfl w.heap.size 5 i0 (.int .u8 0) 1 1 Try.underlying23 hi hz0 hz1 hz2 rfl (by decide) _ _ _ rfl HR3 ⟨g3, 0, none⟩ (encText x.1).length cp3 ((encText x.1).map (Value.int .u8)) rfl (by simp) (ho3.cells (g := g3) rfl) (ints_oneCell _ _) (by unfold maxLen; omega) (by omega) (by have := hB.size; have : W.heap.size ≤ w3.heap.size := hb3.size; omega) ?_
      intro v' w4 hown' hgrow _
      obtain ⟨g', cap', rfl⟩ : ∃ g' cap', v' = .slice (some ⟨g', 0, none⟩) ((encPre l.length pre).length + (encText x.1).length) cap' := by
        have hp := encText_pos x.1
        obtain ⟨g', cap', h, _⟩ := row_addr hown' (by omega)
        exact ⟨g', cap', h⟩
      refine hK _ _ ?_
      clear hK K
      have hv4 : Boxed w4 w1.heap.size 23 v := hv3.kept hgrow (hv3.not_row (by decide) HR3)
      have hc4 := hv4.cell
      have hf4 := hv4.frozen
      refine wpAnyIn_ready (rs := [4]) (by kernel_rfl) (by simp) ?_
      refine AllReadyIn.cons rfl (fun K hK => ?_) AllReadyIn.nil
      go_simp
      refine hK _ _ ?_
      clear hK K
      refine wpAnyIn_done (by kernel_rfl) ?_ _
      exact listbody hv hv4 hrow hB hb3 HR3 hgrow hown' (by simp [encPre_snoc]) (by simp [encPre_snoc]) hs1
    · go_simp
      refine hK _ _ ?_
      clear hK K
      refine wpAnyIn_ready (rs := [0, 2]) (by kernel_rfl) (by simp) ?_
      refine AllReadyIn.cons rfl (fun K hK => ?_) (AllReadyIn.cons rfl (fun K hK => ?_) AllReadyIn.nil)
      · go_simp
        refine hK _ _ ?_
        clear hK K
        refine wpAnyIn_ready (rs := [2]) (by kernel_rfl) (by simp) ?_
        refine AllReadyIn.cons rfl (fun K hK => ?_) AllReadyIn.nil
        go_simp
        refine ⟨trivial, (CallsIn.inRound lx (callsIn_wide.2 (text_any x.1 HX.out W.drew))).mono ?_⟩
        rintro e w3 ⟨v3, rfl, ho3, hb3⟩
        obtain ⟨g3, cp3, rfl, hg3, hgc3, hgm3⟩ := row_addr ho3 (encText_pos _)
        have hv3 : Boxed w3 w1.heap.size 23 v := hv.kept (row := none) ⟨hb3.os, hb3.tape, hb3.output, hb3.size, fun i hi _ => hb3.block i hi⟩ (by simp)
        have hc3 := hv3.cell
        refine hK _ _ ?_
        clear hK K
        refine wpAnyIn_ready (rs := [3]) (by kernel_rfl) (by simp) ?_
        refine AllReadyIn.cons rfl (fun K hK => ?_) AllReadyIn.nil
        refine (if_pos rfl).mpr ?_
        have HR3 := row_kept hrow.drew hb3
        have hz3 := hb3.size
        refine operIn_append_own _ _ _ 23 rfl w.heap.size 5 i0 (.int .u8 0) 1 1 Try.underlying23 hi hz0 hz1 hz2 rfl (by decide) _ _ _ rfl HR3 ⟨g3, 0, none⟩ (encText x.1).length cp3 ((encText x.1).map (Value.int .u8)) rfl (by simp) (ho3.cells (g := g3) rfl) (ints_oneCell _ _) (by unfold maxLen; omega) (by omega) (by have := hB.size; have : W.heap.size ≤ w3.heap.size := hb3.size; omega) ?_
        intro v' w4 hown' hgrow _
        obtain ⟨g', cap', rfl⟩ : ∃ g' cap', v' = .slice (some ⟨g', 0, none⟩) ((encPre l.length pre).length + (encText x.1).length) cap' := by
          have hp := encText_pos x.1
          obtain ⟨g', cap', h, _⟩ := row_addr hown' (by omega)
          exact ⟨g', cap', h⟩
        refine hK _ _ ?_
        clear hK K
        have hv4 : Boxed w4 w1.heap.size 23 v := hv3.kept hgrow (hv3.not_row (by decide) HR3)
        have hc4 := hv4.cell
        have hf4 := hv4.frozen
        refine wpAnyIn_ready (rs := [4]) (by kernel_rfl) (by simp) ?_
        refine AllReadyIn.cons rfl (fun K hK => ?_) AllReadyIn.nil
        go_simp
        refine hK _ _ ?_
        clear hK K
        refine wpAnyIn_done (by kernel_rfl) ?_ _
        exact listbody hv hv4 hrow hB hb3 HR3 hgrow hown' (by simp [encPre_snoc]) (by simp [encPre_snoc]) hs1
      · go_simp
        refine ⟨trivial, (CallsIn.inRound lx (callsIn_wide.2 (text_any x.1 HX.out W.drew))).mono ?_⟩
        rintro e w3 ⟨v3, rfl, ho3, hb3⟩
        obtain ⟨g3, cp3, rfl, hg3, hgc3, hgm3⟩ := row_addr ho3 (encText_pos _)
        have hv3 : Boxed w3 w1.heap.size 23 v := hv.kept (row := none) ⟨hb3.os, hb3.tape, hb3.output, hb3.size, fun i hi _ => hb3.block i hi⟩ (by simp)
        have hc3 := hv3.cell
        refine hK _ _ ?_
        clear hK K
        refine wpAnyIn_ready (rs := [0]) (by kernel_rfl) (by simp) ?_
        refine AllReadyIn.cons rfl (fun K hK => ?_) AllReadyIn.nil
        go_simp
        refine hK _ _ ?_
        clear hK K
        refine wpAnyIn_ready (rs := [3]) (by kernel_rfl) (by simp) ?_
        refine AllReadyIn.cons rfl (fun K hK => ?_) AllReadyIn.nil
        refine (if_pos rfl).mpr ?_
        have HR3 := row_kept hrow.drew hb3
        have hz3 := hb3.size
        refine operIn_append_own _ _ _ 23 rfl w.heap.size 5 i0 (.int .u8 0) 1 1 Try.underlying23 hi hz0 hz1 hz2 rfl (by decide) _ _ _ rfl HR3 ⟨g3, 0, none⟩ (encText x.1).length cp3 ((encText x.1).map (Value.int .u8)) rfl (by simp) (ho3.cells (g := g3) rfl) (ints_oneCell _ _) (by unfold maxLen; omega) (by omega) (by have := hB.size; have : W.heap.size ≤ w3.heap.size := hb3.size; omega) ?_
        intro v' w4 hown' hgrow _
        obtain ⟨g', cap', rfl⟩ : ∃ g' cap', v' = .slice (some ⟨g', 0, none⟩) ((encPre l.length pre).length + (encText x.1).length) cap' := by
          have hp := encText_pos x.1
          obtain ⟨g', cap', h, _⟩ := row_addr hown' (by omega)
          exact ⟨g', cap', h⟩
        refine hK _ _ ?_
        clear hK K
        have hv4 : Boxed w4 w1.heap.size 23 v := hv3.kept hgrow (hv3.not_row (by decide) HR3)
        have hc4 := hv4.cell
        have hf4 := hv4.frozen
        refine wpAnyIn_ready (rs := [4]) (by kernel_rfl) (by simp) ?_
        refine AllReadyIn.cons rfl (fun K hK => ?_) AllReadyIn.nil
        go_simp
        refine hK _ _ ?_
        clear hK K
        refine wpAnyIn_done (by kernel_rfl) ?_ _
        exact listbody hv hv4 hrow hB hb3 HR3 hgrow hown' (by simp [encPre_snoc]) (by simp [encPre_snoc]) hs1
  case done =>
    rintro D ys W hD rfl ⟨⟨v, hv, hrow, _⟩, hB⟩ hK
    have hc := hv.cell
    gi_wp2
    refine ⟨by simp, .inl ⟨_, _, rfl, run_takeDeferred hK, ?_⟩⟩
    exact ⟨_, results_tmp rfl _ _ _, v, rfl, by rw [HE.out]; exact ownsRow_putObj hrow _ hK rfl, hB.trans (belowK_b (w := w) (Nat.le_refl _) W D _ _ (by simp at hD; omega) hK rfl rfl)⟩
  case stop =>
    rintro D c pre W _ _ h _
    exact h.elim
end Go.Proofs.Ytcdgecdcfpedfaa
