/-
  PROVED: The contract of slices.Clone over guesses, rows of guesses. CONDITIONS: at most 1000 guesses, which lie in the world.
-/
import Derived.Test.YtoanpfbdhkgncaaI
namespace Go.Proofs.Ytoanpfbdhkgncaa
open Go.RowKit
set_option maxRecDepth 100000
set_option maxHeartbeats 1000000
theorem Try.info25 : (Try.prog.info? 25).map (fun i => (i.zero, i.size, i.bytes)) = some (some (.agg #[.int .i64 0, .int .i64 0]), 2, 16) := by kernel_rfl
def Ow.cells (x : Ow) : List Value := [.int .i64 x.node, .int .i64 x.hop]
/-- The cells of guesses, in a row. -/
def flat (l : List Ow) : List Value := l.flatMap Ow.cells
theorem flat_length (l : List Ow) : (flat l).length = l.length * 2 := by
  induction l with
  | nil => rfl
  | cons x l ih =>
    show (x.cells ++ flat l).length = _
    rw [List.length_append, ih]
    simp [Ow.cells]; omega
theorem flat_get : ∀ (l : List Ow) (i r : Nat) (h : i < l.length), r < 2 → (flat l)[i * 2 + r]? = (l[i]).cells[r]?
  | x :: l, 0, r, _, hr => by
    show (x.cells ++ flat l)[0 * 2 + r]? = _
    rw [List.getElem?_append_left (by simp [Ow.cells]; omega)]
    simp
  | x :: l, i + 1, r, h, hr => by
    show (x.cells ++ flat l)[(i + 1) * 2 + r]? = _
    rw [List.getElem?_append_right (by simp [Ow.cells]; omega)]
    rw [show (i + 1) * 2 + r - x.cells.length = i * 2 + r by simp [Ow.cells]; omega]
    exact flat_get l i r (by simpa using h) hr
theorem flat_at {l : List Ow} {j : Nat} {u : Value} (h : (flat l)[j]? = some u) : ∃ (hi : j / 2 < l.length), (l[j / 2]).cells[j % 2]? = some u := by
  have hj : j < (flat l).length := (List.getElem?_eq_some_iff.1 h).1
  rw [flat_length] at hj
  have hi : j / 2 < l.length := by omega
  refine ⟨hi, ?_⟩
  rw [← flat_get l (j / 2) (j % 2) hi (by omega), show j / 2 * 2 + j % 2 = j by omega]
  exact h
theorem Cell2.get {w : World} {b o : Nat} {x : Ow} (h : Cell2 w b o x) {r : Nat} {u : Value} (hr : x.cells[r]? = some u) : w.cell? ⟨b, o + r, none⟩ = some u := by
  obtain ⟨h0, h1⟩ := h
  match r, hr with
  | 0, hr => simp [Ow.cells] at hr; subst hr; exact h0
  | 1, hr => simp [Ow.cells] at hr; subst hr; exact h1
  | r + 2, hr => simp [Ow.cells] at hr
theorem flat_one (l : List Ow) : ∀ u ∈ flat l, u.oneCell' = true := by
  intro u hu
  obtain ⟨x, _, hx⟩ := List.mem_flatMap.1 hu
  simp only [Ow.cells, List.mem_cons, List.not_mem_nil, or_false] at hx
  rcases hx with rfl | rfl <;> rfl
theorem row_addr {w : World} {B : Nat} {v : Value} {n : Nat} {xs : List Value} (h : w.ownsRow B 25 2 v n xs) (hn : 0 < n) : ∃ g cp, v = .slice (some ⟨g, 0, none⟩) n cp ∧ B ≤ g ∧ n ≤ cp ∧ cp ≤ maxLen := by
  obtain ⟨h1, ⟨h2, h3⟩ | ⟨g, cap, cur, ha, h4, h5, h6, h7, h8, h9⟩⟩ := h
  · omega
  · exact ⟨g, cap, ha, h4, h6, h7⟩
theorem row_form {w : World} {B : Nat} {v : Value} {n : Nat} {xs : List Value} (h : w.ownsRow B 25 2 v n xs) : ∃ ao cp, v = .slice ao n cp ∧ n ≤ cp ∧ cp ≤ maxLen ∧ (ao = none → cp = 0) := by
  obtain ⟨h1, ⟨rfl, rfl⟩ | ⟨g, cap, cur, ha, h4, h5, h6, h7, h8, h9⟩⟩ := h
  · exact ⟨none, 0, rfl, by omega, by unfold maxLen; omega, fun _ => rfl⟩
  · exact ⟨_, cap, ha, h6, h7, fun e => by cases e⟩
theorem row_cell {w : World} {B g cp : Nat} {n : Nat} {l : List Ow} (h : w.ownsRow B 25 2 (.slice (some ⟨g, 0, none⟩) n cp) n (flat l)) (hn : n = l.length) (i : Nat) (hi : i < l.length) : Cell2 w g (i * 2) l[i] := by
  subst hn
  have h0 := (h.cellAt (i * 2 + 0) (by omega)).trans (flat_get l i 0 hi (by omega))
  have h1 := (h.cellAt (i * 2 + 1) (by omega)).trans (flat_get l i 1 hi (by omega))
  exact ⟨h0, h1⟩
theorem Owns.of_row {w : World} {B : Nat} {v : Value} {l : List Ow} (h : w.ownsRow B 25 2 v l.length (flat l)) : Owns w v l := by
  obtain ⟨ao, cp, rfl, hl, hm, -⟩ := row_form h
  refine ⟨ao, cp, rfl, by unfold maxLen at hm; omega, fun h0 => ?_⟩
  obtain ⟨g, cp', e, _⟩ := row_addr h h0
  cases e
  exact ⟨g, 0, rfl, fun i hi => by rw [Nat.zero_add]; exact row_cell h rfl i hi⟩
/-- 'append(s, x...)' at guesses, whatever slice x is. -/
theorem wpList_append_owns {w : World} {ops : Array Oper} {rest : List Oper} {o : Oper} {a : Act} {Q : Exit → Act → World → Prop} (hgd : o.guard = none) (s x : Operand)
    (ho : o.op = .call { callee := .builtin .append, args := #[s, x], argTypes := #[44, 44] })
    (base : Nat) (v : Value) (n : Nat) (xs : List Value) (hs : a.eval s = v) (hown : w.ownsRow base 25 2 v n xs)
    (vx : Value) (l : List Ow) (hx : a.eval x = vx) (hz : Owns w vx l) (hn : ∀ m c, vx = .slice none m c → c = 0)
    (hsz : n + l.length ≤ 100000) (hbase : base ≤ w.heap.size)
    (h : ∀ v' w', w'.ownsRow base 25 2 v' (n + l.length) (xs ++ flat l) → w.grownBy w' v.ownBlock → wpList Try.prog ops Q rest (a.put o.dst v') w') : wpList Try.prog ops Q (o :: rest) a w := by
  obtain ⟨i0, hi, hz0, hz1, hz2⟩ := info_parts Try.info25
  obtain ⟨ao, cp, rfl, hl, hc⟩ := hz
  cases ao with
  | none =>
    obtain rfl : cp = 0 := hn _ _ rfl
    have hl0 : l.length = 0 := by
      by_cases h0 : 0 < l.length
      · obtain ⟨b, off, e, _⟩ := hc h0; cases e
      · omega
    obtain rfl : l = [] := List.length_eq_zero_iff.1 hl0
    refine wpList_append_own_none hgd s x 44 ho base 25 i0 2 Try.underlying44 hi v n xs hs hown hx ?_
    exact h v w (by simpa [flat] using hown) (World.grownBy.refl _ _)
  | some y =>
    refine wpList_append_own w hgd s x 44 ho base 25 i0 _ 2 16 Try.underlying44 hi hz0 hz1 hz2 rfl (by decide) v n xs hs hown y l.length cp (flat l) hx (by rw [flat_length]) ?_ (flat_one l) (by unfold maxLen; omega) (by omega) hbase ?_
    · intro j u hu
      obtain ⟨hi, hr⟩ := flat_at hu
      obtain ⟨b, off, e, hcell⟩ := hc (by omega)
      cases e
      have := (hcell _ hi).get hr
      rw [show off + j / 2 * 2 + j % 2 = off + j by omega] at this
      rw [show (⟨b, off, none⟩ : Addr).add j = ⟨b, off + j, none⟩ by simp [Addr.add]]
      exact this
    · intro v' w' h1 h2 _
      exact h v' w' h1 h2
theorem Row.below {w w' : World} {B n : Nat} {v : Value} {xs : List Value} (h : w.ownsRow B 25 2 v n xs) (hb : Below w.heap.size w w') : w'.ownsRow B 25 2 v n xs :=
  h.kept (row := none) (grown_of_below hb) (by by_cases h : v.ownBlock = none; exact .inl h; exact .inr h)
theorem clone_any (v : Value) (l : List Ow) (w : World) (h : Owns w v l) (hn : ∀ m c, v = .slice none m c → c = 0) (hsz : l.length ≤ 1000) :
    Calls Try.prog 31 #[v] w fun e w' => (∃ v', e = .returned v' ∧ w'.ownsRow w.heap.size 25 2 v' l.length (flat l)) ∧ Below w.heap.size w w' := by
  have HST := Lib.hid h
  have HN := Lib.hid hn
  obtain ⟨ao, cp, rfl, hl, hc⟩ := h
  cases ao with
  | none =>
    obtain rfl : cp = 0 := hn _ _ rfl
    have hl0 : l.length = 0 := by
      by_cases h0 : 0 < l.length
      · obtain ⟨b, off, e, _⟩ := hc h0; cases e
      · omega
    obtain rfl : l = [] := List.length_eq_zero_iff.1 hl0
    clear hc hn
    have hnil : ∀ W, (binOp .eql 44 (.slice none 0 0) (.slice none 0 0)).run Try.prog W = .ok (.bool true) W := fun W => Lib.run_eql_slice_nil W 44 25 none _ _ _ _ Try.underlying44
    go_enter Try.func31, Try.ntmps31
    go_wp2
    go_ret
    exact ⟨⟨_, rfl, ⟨rfl, .inl ⟨rfl, rfl⟩⟩⟩, Below.refl _ _⟩
  | some y =>
    clear hc hn
    have hnil : ∀ W, (binOp .eql 44 (.slice (some y) l.length cp) (.slice none 0 0)).run Try.prog W = .ok (.bool false) W := fun W => Lib.run_eql_slice_nil W 44 25 (some y) _ _ _ _ Try.underlying44
    have HO : Hid ((w.alloc (.cells #[] 25)).ownsRow w.heap.size 25 2 (.slice (some ⟨w.heap.size, 0, none⟩) 0 0) 0 []) := World.ownsRow_lit w #[] 0 (Nat.le_refl _) (Nat.zero_le _) rfl
    have HS2 : Hid (Owns (w.alloc (.cells #[] 25)) (.slice (some y) l.length cp) l) := Lib.hid (HST.out.below (below_new _) (Nat.le_refl _))
    go_enter Try.func31, Try.ntmps31
    go_wp2_with (at_builtin; refine wpList_append_owns rfl (.tmp 5) (.tmp 6) rfl w.heap.size _ _ _ rfl HO.out _ l rfl HS2.out HN.out (by omega) (by simp) ?_)
    intro v' w' h1 h2
    have HB := Lib.hid ((below_new (w := w) (.cells #[] 25)).grown h2 (by simp) (fun k hk => (HO.out.lt k hk).1))
    have HO1 := Lib.hid h1
    clear h1 h2
    go_wp2
    go_ret
    exact ⟨⟨_, rfl, by simpa using HO1.out⟩, HB.out⟩
end Go.Proofs.Ytoanpfbdhkgncaa
