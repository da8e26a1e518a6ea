/-
  PROVED: The contracts of slices.Clone over statuses and of the law's lent; an append of statuses. CONDITIONS: at most 1000 statuses, which lie in the world.
-/
import Derived.Test.YthlkahpglabnbaaG
import Derived.Laws.AppendOwnNone
import Derived.Laws.OwnMore
namespace Go.Proofs.Ythlkahpglabnbaa
open Go.RowKit
set_option maxRecDepth 100000
set_option maxHeartbeats 1000000
theorem Try.info27 : (Try.prog.info? 27).map (fun i => (i.zero, i.size, i.bytes)) = some (some (.agg #[.int .i64 0, .bool false, .int .i64 0, .int .i64 0]), 4, 32) := by kernel_rfl
theorem info_parts {P : Program} {t : TypeId} {z : Option Value} {s b : Nat} (h : (P.info? t).map (fun i => (i.zero, i.size, i.bytes)) = some (z, s, b)) : ∃ i, P.info? t = some i ∧ i.zero = z ∧ i.size = s ∧ i.bytes = b := by
  cases hi : P.info? t with
  | none => rw [hi] at h; cases h
  | some i =>
    rw [hi] at h
    simp only [Option.map_some, Option.some.injEq, Prod.mk.injEq] at h
    exact ⟨i, rfl, h.1, h.2.1, h.2.2⟩
/-- The cells of statuses, in a row. -/
def flat (l : List St) : List Value := l.flatMap St.cells
theorem flat_length (l : List St) : (flat l).length = l.length * 4 := by
  induction l with
  | nil => rfl
  | cons x l ih =>
    show (x.cells ++ flat l).length = _
    rw [List.length_append, ih]
    simp [St.cells]; omega
theorem flat_get : ∀ (l : List St) (i r : Nat) (h : i < l.length), r < 4 → (flat l)[i * 4 + r]? = (l[i]).cells[r]?
  | x :: l, 0, r, _, hr => by
    show (x.cells ++ flat l)[0 * 4 + r]? = _
    rw [List.getElem?_append_left (by simp [St.cells]; omega)]
    simp
  | x :: l, i + 1, r, h, hr => by
    show (x.cells ++ flat l)[(i + 1) * 4 + r]? = _
    rw [List.getElem?_append_right (by simp [St.cells]; omega)]
    rw [show (i + 1) * 4 + r - x.cells.length = i * 4 + r by simp [St.cells]; omega]
    exact flat_get l i r (by simpa using h) hr
theorem flat_at {l : List St} {j : Nat} {u : Value} (h : (flat l)[j]? = some u) : ∃ (hi : j / 4 < l.length), (l[j / 4]).cells[j % 4]? = some u := by
  have hj : j < (flat l).length := (List.getElem?_eq_some_iff.1 h).1
  rw [flat_length] at hj
  have hi : j / 4 < l.length := by omega
  refine ⟨hi, ?_⟩
  rw [← flat_get l (j / 4) (j % 4) hi (by omega), show j / 4 * 4 + j % 4 = j by omega]
  exact h
theorem Cell4.get {w : World} {b o : Nat} {x : St} (h : Cell4 w b o x) {r : Nat} {u : Value} (hr : x.cells[r]? = some u) : w.cell? ⟨b, o + r, none⟩ = some u := by
  obtain ⟨h0, h1, h2, h3⟩ := h
  match r, hr with
  | 0, hr => simp [St.cells] at hr; subst hr; exact h0
  | 1, hr => simp [St.cells] at hr; subst hr; exact h1
  | 2, hr => simp [St.cells] at hr; subst hr; exact h2
  | 3, hr => simp [St.cells] at hr; subst hr; exact h3
  | r + 4, hr => simp [St.cells] at hr
theorem flat_one (l : List St) : ∀ u ∈ flat l, u.oneCell' = true := by
  intro u hu
  obtain ⟨x, _, hx⟩ := List.mem_flatMap.1 hu
  simp only [St.cells, List.mem_cons, List.not_mem_nil, or_false] at hx
  rcases hx with rfl | rfl | rfl | rfl <;> rfl
/-- What a row of its own holds. -/
def Row (w : World) (B : Nat) (v : Value) (l : List St) : Prop := w.ownsRow B 27 4 v l.length (flat l)
theorem row_addr {w : World} {B : Nat} {v : Value} {n : Nat} {xs : List Value} (h : w.ownsRow B 27 4 v n xs) (hn : 0 < n) : ∃ g cp, v = .slice (some ⟨g, 0, none⟩) n cp ∧ B ≤ g ∧ n ≤ cp ∧ cp ≤ maxLen := by
  obtain ⟨h1, ⟨h2, h3⟩ | ⟨g, cap, cur, ha, h4, h5, h6, h7, h8, h9⟩⟩ := h
  · omega
  · exact ⟨g, cap, ha, h4, h6, h7⟩
theorem row_form {w : World} {B : Nat} {v : Value} {n : Nat} {xs : List Value} (h : w.ownsRow B 27 4 v n xs) : ∃ ao cp, v = .slice ao n cp ∧ n ≤ cp ∧ cp ≤ maxLen := by
  obtain ⟨h1, ⟨rfl, rfl⟩ | ⟨g, cap, cur, ha, h4, h5, h6, h7, h8, h9⟩⟩ := h
  · exact ⟨none, 0, rfl, by omega, by unfold maxLen; omega⟩
  · exact ⟨_, cap, ha, h6, h7⟩
theorem row_cell {w : World} {B g cp : Nat} {n : Nat} {l : List St} (h : w.ownsRow B 27 4 (.slice (some ⟨g, 0, none⟩) n cp) n (flat l)) (hn : n = l.length) (i : Nat) (hi : i < l.length) : Cell4 w g (i * 4) l[i] := by
  subst hn
  have h0 := (h.cellAt (i * 4 + 0) (by omega)).trans (flat_get l i 0 hi (by omega))
  have h1 := (h.cellAt (i * 4 + 1) (by omega)).trans (flat_get l i 1 hi (by omega))
  have h2 := (h.cellAt (i * 4 + 2) (by omega)).trans (flat_get l i 2 hi (by omega))
  have h3 := (h.cellAt (i * 4 + 3) (by omega)).trans (flat_get l i 3 hi (by omega))
  exact ⟨h0, h1, h2, h3⟩
theorem Stats.of_row {w : World} {B : Nat} {v : Value} {l : List St} (h : w.ownsRow B 27 4 v l.length (flat l)) : Stats w v l := by
  obtain ⟨ao, cp, rfl, hl, hm⟩ := row_form h
  refine ⟨ao, cp, rfl, by unfold maxLen at hm; omega, fun h0 => ?_⟩
  obtain ⟨g, cp', e, _⟩ := row_addr h h0
  cases e
  exact ⟨g, 0, rfl, fun i hi => by rw [Nat.zero_add]; exact row_cell h rfl i hi⟩
/-- 'append(s, x...)' at statuses, whatever slice x is. -/
theorem wpList_append_stats {w : World} {ops : Array Oper} {rest : List Oper} {o : Oper} {a : Act} {Q : Exit → Act → World → Prop} (hgd : o.guard = none) (s x : Operand)
    (ho : o.op = .call { callee := .builtin .append, args := #[s, x], argTypes := #[24, 24] })
    (base : Nat) (v : Value) (n : Nat) (xs : List Value) (hs : a.eval s = v) (hown : w.ownsRow base 27 4 v n xs)
    (vx : Value) (l : List St) (hx : a.eval x = vx) (hz : Stats w vx l) (hn : ∀ m c, vx = .slice none m c → c = 0)
    (hsz : n + l.length ≤ 100000) (hbase : base ≤ w.heap.size)
    (h : ∀ v' w', w'.ownsRow base 27 4 v' (n + l.length) (xs ++ flat l) → w.grownBy w' v.ownBlock → wpList Try.prog ops Q rest (a.put o.dst v') w') : wpList Try.prog ops Q (o :: rest) a w := by
  obtain ⟨i0, hi, hz0, hz1, hz2⟩ := info_parts Try.info27
  obtain ⟨ao, cp, rfl, hl, hc⟩ := hz
  cases ao with
  | none =>
    obtain rfl : cp = 0 := hn _ _ rfl
    have hl0 : l.length = 0 := by
      by_cases h0 : 0 < l.length
      · obtain ⟨b, off, e, _⟩ := hc h0; cases e
      · omega
    obtain rfl : l = [] := List.length_eq_zero_iff.1 hl0
    refine wpList_append_own_none hgd s x 24 ho base 27 i0 4 Try.underlying24 hi v n xs hs hown hx ?_
    exact h v w (by simpa [flat] using hown) (World.grownBy.refl _ _)
  | some y =>
    refine wpList_append_own w hgd s x 24 ho base 27 i0 _ 4 32 Try.underlying24 hi hz0 hz1 hz2 rfl (by decide) v n xs hs hown y l.length cp (flat l) hx (by rw [flat_length]) ?_ (flat_one l) (by unfold maxLen; omega) (by omega) hbase ?_
    · intro j u hu
      obtain ⟨hi, hr⟩ := flat_at hu
      obtain ⟨b, off, e, hcell⟩ := hc (by omega)
      cases e
      have := (hcell _ hi).get hr
      rw [show off + j / 4 * 4 + j % 4 = off + j by omega] at this
      rw [show (⟨b, off, none⟩ : Addr).add j = ⟨b, off + j, none⟩ by simp [Addr.add]]
      exact this
    · intro v' w' h1 h2 _
      exact h v' w' h1 h2
theorem Row.below {w w' : World} {B n : Nat} {v : Value} {xs : List Value} (h : w.ownsRow B 27 4 v n xs) (hb : Below w.heap.size w w') : w'.ownsRow B 27 4 v n xs :=
  h.kept (row := none) (grown_of_below hb) (by by_cases h : v.ownBlock = none; exact .inl h; exact .inr h)
theorem clone_any (v : Value) (l : List St) (w : World) (h : Stats w v l) (hn : ∀ m c, v = .slice none m c → c = 0) (hsz : l.length ≤ 1000) :
    Calls Try.prog 23 #[v] w fun e w' => (∃ v', e = .returned v' ∧ w'.ownsRow w.heap.size 27 4 v' l.length (flat l)) ∧ Below w.heap.size w w' := by
  have HST := Lib.hid h
  have HN := Lib.hid hn
  obtain ⟨ao, cp, rfl, hl, hc⟩ := h
  cases ao with
  | none =>
    obtain rfl : cp = 0 := hn _ _ rfl
    have hl0 : l.length = 0 := by
      by_cases h0 : 0 < l.length
      · obtain ⟨b, off, e, _⟩ := hc h0; cases e
      · omega
    obtain rfl : l = [] := List.length_eq_zero_iff.1 hl0
    clear hc hn
    have hnil : ∀ W, (binOp .eql 24 (.slice none 0 0) (.slice none 0 0)).run Try.prog W = .ok (.bool true) W := fun W => Lib.run_eql_slice_nil W 24 27 none _ _ _ _ Try.underlying24
    go_enter Try.func23, Try.ntmps23
    go_wp2
    go_ret
    exact ⟨⟨_, rfl, ⟨rfl, .inl ⟨rfl, rfl⟩⟩⟩, Below.refl _ _⟩
  | some y =>
    clear hc hn
    have hnil : ∀ W, (binOp .eql 24 (.slice (some y) l.length cp) (.slice none 0 0)).run Try.prog W = .ok (.bool false) W := fun W => Lib.run_eql_slice_nil W 24 27 (some y) _ _ _ _ Try.underlying24
    have HO : Hid ((w.alloc (.cells #[] 27)).ownsRow w.heap.size 27 4 (.slice (some ⟨w.heap.size, 0, none⟩) 0 0) 0 []) := World.ownsRow_lit w #[] 0 (Nat.le_refl _) (Nat.zero_le _) rfl
    have HS2 : Hid (Stats (w.alloc (.cells #[] 27)) (.slice (some y) l.length cp) l) := Lib.hid (HST.out.below (below_new _) (Nat.le_refl _))
    go_enter Try.func23, Try.ntmps23
    go_wp2_with (at_builtin; refine wpList_append_stats rfl (.tmp 5) (.tmp 6) rfl w.heap.size _ _ _ rfl HO.out _ l rfl HS2.out HN.out (by omega) (by simp) ?_)
    intro v' w' h1 h2
    have HB := Lib.hid ((below_new (w := w) (.cells #[] 27)).grown h2 (by simp) (fun k hk => (HO.out.lt k hk).1))
    have HO1 := Lib.hid h1
    clear h1 h2
    go_wp2
    go_ret
    exact ⟨⟨_, rfl, by simpa using HO1.out⟩, HB.out⟩
/-- A copy with room behind it, in which 77 stands. -/
theorem lent_any (v : Value) (l : List St) (w : World) (h : Stats w v l) (hn : ∀ m c, v = .slice none m c → c = 0) (hsz : l.length ≤ 1000) :
    Calls Try.prog 8 #[v] w fun e w' => (∃ g cp, e = .returned (.slice (some ⟨g, 0, none⟩) l.length cp) ∧ w'.ownsRow w.heap.size 27 4 (.slice (some ⟨g, 0, none⟩) (l.length + 1) cp) (l.length + 1) (flat (l ++ [⟨77, false, 0, 0⟩])) ∧ l.length + 1 ≤ cp ∧ cp ≤ 9223372036854775807) ∧ Below w.heap.size w w' := by
  have HST := Lib.hid h
  have HN := Lib.hid hn
  obtain ⟨ao, cp, rfl, hl, hc⟩ := h
  clear hc hn
  have HO : Hid ((w.alloc (.cells #[] 27)).ownsRow w.heap.size 27 4 (.slice (some ⟨w.heap.size, 0, none⟩) 0 0) 0 []) := World.ownsRow_lit w #[] 0 (Nat.le_refl _) (Nat.zero_le _) rfl
  have HS2 : Hid (Stats (w.alloc (.cells #[] 27)) (.slice ao l.length cp) l) := Lib.hid (HST.out.below (below_new _) (Nat.le_refl _))
  go_enter Try.func8, Try.ntmps8
  go_wp2_with (at_builtin; refine wpList_append_stats rfl (.tmp 3) (.tmp 4) rfl w.heap.size _ _ _ rfl HO.out _ l rfl HS2.out HN.out (by omega) (by simp) ?_)
  intro v1 w1 h1 h2
  have HB := Lib.hid ((below_new (w := w) (.cells #[] 27)).grown h2 (by simp) (fun k hk => (HO.out.lt k hk).1))
  have HO1 := Lib.hid h1
  have hs1 := HB.out.size
  clear h1 h2
  have HS3 : Hid (Stats (w1.alloc (.cells #[.int .i64 77, .bool false, .int .i64 0, .int .i64 0] 27)) (.slice (some ⟨w1.heap.size, 0, none⟩) 1 1) [⟨77, false, 0, 0⟩]) := ⟨_, _, rfl, by decide, fun _ => ⟨_, _, rfl, fun i hi => by
    obtain rfl : i = 0 := by simpa using hi
    refine ⟨?_, ?_, ?_, ?_⟩ <;> simp⟩⟩
  go_wp2_with (at_builtin; refine wpList_append_stats rfl (.tmp 5) (.tmp 7) rfl w.heap.size _ _ _ rfl (HO1.out.alloc _) _ _ rfl HS3.out (fun m c h => by cases h) (by simp; omega) (by simp; omega) ?_)
  intro v2 w2 h1 h2
  have HB2 := Lib.hid ((HB.out.alloc hs1 _).grown h2 (by simp; omega) (fun k hk => (HO1.out.lt k hk).1))
  obtain ⟨g, cp2, rfl, hg, hgc, hgm⟩ := row_addr h1 (by simp)
  unfold maxLen at hgm
  have HO2 := Lib.hid h1
  clear h1 h2
  go_wp2
  go_ret
  refine ⟨⟨g, cp2, rfl, ?_, by simpa using hgc, hgm⟩, HB2.out⟩
  have h := HO2.out
  simpa [flat] using h
end Go.Proofs.Ythlkahpglabnbaa
