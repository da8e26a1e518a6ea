/-
  PROVED: The walk of the law OwnerOn; how shapes, guesses, seeks and lists that came in are read. CONDITIONS: none besides.
-/
import Derived.Test.YtoanpfbdhkgncaaM
import Derived.Deep.Slices
import Derived.ChangeSame
namespace Go.Proofs.Ytoanpfbdhkgncaa
open Go.RowKit Go.ChangeShapes Go.WideShapes Go.Deep
section
variable {H : Type} {enc : TypeId × Value → H} {w : World} {base : Nat} {spare : Nat → Bool} {held : Bool}
theorem cells23 : Try.prog.cellsOf 23 = 3 := by kernel_rfl
theorem cells25 : Try.prog.cellsOf 25 = 2 := by kernel_rfl
theorem cells27 : Try.prog.cellsOf 27 = 5 := by kernel_rfl
theorem cells37 : Try.prog.cellsOf 37 = 2 := by kernel_rfl
theorem cells46 : Try.prog.cellsOf 46 = 2 := by kernel_rfl
theorem cells44 : Try.prog.cellsOf 44 = 1 := by kernel_rfl
theorem cells3 : Try.prog.cellsOf 3 = 1 := by kernel_rfl
theorem cells2 : Try.prog.cellsOf 2 = 1 := by kernel_rfl
theorem cells4 : Try.prog.cellsOf 4 = 1 := by kernel_rfl
theorem len2 {α : Type} {l : List α} (h : l.length = 2) : ∃ a b, l = [a, b] := by
  match l, h with
  | [a, b], _ => exact ⟨a, b, rfl⟩
theorem len3 {α : Type} {l : List α} (h : l.length = 3) : ∃ a b c, l = [a, b, c] := by
  match l, h with
  | [a, b, c], _ => exact ⟨a, b, c, rfl⟩
theorem len4 {α : Type} {l : List α} (h : l.length = 4) : ∃ a b c d, l = [a, b, c, d] := by
  match l, h with
  | [a, b, c, d], _ => exact ⟨a, b, c, d, rfl⟩
theorem len5 {α : Type} {l : List α} (h : l.length = 5) : ∃ a b c d e, l = [a, b, c, d, e] := by
  match l, h with
  | [a, b, c, d, e], _ => exact ⟨a, b, c, d, e, rfl⟩
theorem shape_cells {fuel : Nat} {cs : List Value} {y : DataW H × List MemPlace} (h : DataW.trod enc Try.prog w base spare held fuel 23 cs = some y) : ∃ n l s : Int, cs = [.int .i64 n, .int .i64 l, .int .i64 s] := by
  obtain ⟨xs, n, _, _, hl, hxl, hf⟩ := DataW.trod_struct Try.underlying23 h
  rw [cells23] at hl
  obtain ⟨c0, c1, c2, rfl⟩ := len3 hl
  obtain ⟨y0, y1, y2, rfl⟩ := len3 (show xs.length = 3 from hxl)
  have h0 : DataW.trod enc Try.prog w base spare held n 3 (([c0, c1, c2].drop 0).take (Try.prog.cellsOf 3)) = [y0, y1, y2][0]? := hf 0 _ rfl
  have h1 : DataW.trod enc Try.prog w base spare held n 3 (([c0, c1, c2].drop 1).take (Try.prog.cellsOf 3)) = [y0, y1, y2][1]? := hf 1 _ rfl
  have h2 : DataW.trod enc Try.prog w base spare held n 3 (([c0, c1, c2].drop 2).take (Try.prog.cellsOf 3)) = [y0, y1, y2][2]? := hf 2 _ rfl
  simp only [cells3] at h0 h1 h2
  obtain ⟨a, e0, _, _⟩ := DataW.trod_int Try.underlying3 h0
  obtain ⟨b, e1, _, _⟩ := DataW.trod_int Try.underlying3 h1
  obtain ⟨c, e2, _, _⟩ := DataW.trod_int Try.underlying3 h2
  simp at e0 e1 e2
  exact ⟨a, b, c, by simp [e0, e1, e2]⟩
theorem own_cells {fuel : Nat} {cs : List Value} {y : DataW H × List MemPlace} (h : DataW.trod enc Try.prog w base spare held fuel 25 cs = some y) : ∃ x : Ow, cs = x.cells ∧ (Lit.int .i64 x.node).wf = true ∧ (Lit.int .i64 x.hop).wf = true := by
  obtain ⟨xs, n, _, _, hl, hxl, hf⟩ := DataW.trod_struct Try.underlying25 h
  rw [cells25] at hl
  obtain ⟨c0, c1, rfl⟩ := len2 hl
  obtain ⟨y0, y1, rfl⟩ := len2 (show xs.length = 2 from hxl)
  have h0 : DataW.trod enc Try.prog w base spare held n 3 (([c0, c1].drop 0).take (Try.prog.cellsOf 3)) = [y0, y1][0]? := hf 0 _ rfl
  have h1 : DataW.trod enc Try.prog w base spare held n 2 (([c0, c1].drop 1).take (Try.prog.cellsOf 2)) = [y0, y1][1]? := hf 1 _ rfl
  simp only [cells3, cells2] at h0 h1
  obtain ⟨a, e0, _, w0⟩ := DataW.trod_int Try.underlying3 h0
  obtain ⟨b, e1, _, w1⟩ := DataW.trod_int Try.underlying2 h1
  simp at e0 e1
  exact ⟨⟨a, b⟩, by simp [Ow.cells, e0, e1], w0, w1⟩
theorem seek_cells {fuel : Nat} {cs : List Value} {y : DataW H × List MemPlace} (h : DataW.trod enc Try.prog w base spare held fuel 27 cs = some y) : ∃ x : Sk, cs = [.bool x.has, .int .i64 x.own.node, .int .i64 x.own.hop, .int .i64 x.origin, .int .i64 x.hop] ∧ (Lit.int .i64 x.origin).wf = true ∧ (Lit.int .i64 x.hop).wf = true := by
  obtain ⟨xs, n, _, _, hl, hxl, hf⟩ := DataW.trod_struct Try.underlying27 h
  rw [cells27] at hl
  obtain ⟨c0, c1, c2, c3, c4, rfl⟩ := len5 hl
  obtain ⟨y0, y1, y2, y3, rfl⟩ := len4 (show xs.length = 4 from hxl)
  have h0 : DataW.trod enc Try.prog w base spare held n 4 (([c0, c1, c2, c3, c4].drop 0).take (Try.prog.cellsOf 4)) = [y0, y1, y2, y3][0]? := hf 0 _ rfl
  have h1 : DataW.trod enc Try.prog w base spare held n 25 (([c0, c1, c2, c3, c4].drop 1).take (Try.prog.cellsOf 25)) = [y0, y1, y2, y3][1]? := hf 1 _ rfl
  have h2 : DataW.trod enc Try.prog w base spare held n 3 (([c0, c1, c2, c3, c4].drop 3).take (Try.prog.cellsOf 3)) = [y0, y1, y2, y3][2]? := hf 2 _ rfl
  have h3 : DataW.trod enc Try.prog w base spare held n 2 (([c0, c1, c2, c3, c4].drop 4).take (Try.prog.cellsOf 2)) = [y0, y1, y2, y3][3]? := hf 3 _ rfl
  simp only [cells2, cells3, cells4, cells25] at h0 h1 h2 h3
  obtain ⟨a, e0, _⟩ := DataW.trod_bool Try.underlying4 h0
  obtain ⟨b, e1, _, _⟩ := own_cells h1
  obtain ⟨c, e2, _, w2⟩ := DataW.trod_int Try.underlying3 h2
  obtain ⟨d, e3, _, w3⟩ := DataW.trod_int Try.underlying2 h3
  simp [Ow.cells] at e0 e1 e2 e3
  exact ⟨⟨a, b, c, d⟩, by simp [e0, e1, e2, e3], w2, w3⟩
theorem at_cells {fuel : Nat} {cs : List Value} {y : DataW H × List MemPlace} (h : DataW.trod enc Try.prog w base spare held fuel 37 cs = some y) : ∃ (k : Int) (b : Bool), cs = [.int .i64 k, .bool b] := by
  obtain ⟨xs, n, _, _, hl, hxl, hf⟩ := DataW.trod_struct Try.underlying37 h
  rw [cells37] at hl
  obtain ⟨c0, c1, rfl⟩ := len2 hl
  obtain ⟨y0, y1, rfl⟩ := len2 (show xs.length = 2 from hxl)
  have h0 : DataW.trod enc Try.prog w base spare held n 3 (([c0, c1].drop 0).take (Try.prog.cellsOf 3)) = [y0, y1][0]? := hf 0 _ rfl
  have h1 : DataW.trod enc Try.prog w base spare held n 4 (([c0, c1].drop 1).take (Try.prog.cellsOf 4)) = [y0, y1][1]? := hf 1 _ rfl
  simp only [cells3, cells4] at h0 h1
  obtain ⟨a, e0, _, _⟩ := DataW.trod_int Try.underlying3 h0
  obtain ⟨b, e1, _⟩ := DataW.trod_bool Try.underlying4 h1
  simp at e0 e1
  exact ⟨a, b, by simp [e0, e1]⟩
/-- A slice of guesses that came in. -/
def OwnsIn (w : World) (a : Option Addr) (len cap : Nat) (l : List Ow) : Prop := len = l.length ∧ Owns w (.slice a len cap) l ∧ (a = none → cap = 0)
theorem owns_nil (w : World) : Owns w (.slice none 0 0) [] := ⟨none, 0, rfl, by simp, fun h => absurd h (by simp)⟩
theorem addr_add (b o j : Nat) : (⟨b, o, none⟩ : Addr).add j = ⟨b, o + j, none⟩ := by simp [Addr.add]
theorem owns_cells {fuel : Nat} {cs : List Value} {y : DataW H × List MemPlace} (h : DataW.trod enc Try.prog w base spare held fuel 44 cs = some y) : ∃ (a : Option Addr) (len cap : Nat) (l : List Ow), cs = [.slice a len cap] ∧ OwnsIn w a len cap l := by
  rcases open_slice Try.underlying44 h with ⟨hcs, _⟩ | ⟨b, len, cap, m, n, D, Pl, hcs, hb, hl, hm, hmm, hx, hi⟩
  · exact ⟨none, 0, 0, [], hcs, rfl, owns_nil _, fun _ => rfl⟩
  · refine ⟨some b, len, cap, ?_⟩
    have hle : len ≤ m := by rw [hmm]; split <;> omega
    have each : ∀ i, i < len → ∃ x : Ow, ∀ j, j < 2 → w.cell? ((b.add (i * 2)).add j) = x.cells[j]? := by
      intro i hil
      obtain ⟨cs', hc, ht'⟩ := hi i (by omega)
      rw [cells25] at hc
      obtain ⟨x, rfl, _⟩ := own_cells ht'
      obtain ⟨_, hcl, hat⟩ := World.cells?_some hc
      exact ⟨x, fun j hj => hat j hj⟩
    obtain ⟨b0, off, spot⟩ := b
    by_cases h0 : 0 < len
    · obtain ⟨x0, hx0⟩ := each 0 h0
      have h1 := hx0 0 (by omega)
      have hspot : spot = none := by
        have := World.cell?_spot (w := w) (show _ = some _ from h1)
        simpa [Addr.add] using this
      subst hspot
      refine ⟨(List.range len).map fun i => if h : i < len then (each i h).choose else ⟨0, 0⟩, hcs, by simp, ⟨some ⟨b0, off, none⟩, cap, by simp, by simp; unfold maxLen at hm; omega, fun _ => ⟨b0, off, rfl, fun i hi => ?_⟩⟩, fun h => by cases h⟩
      have hil : i < len := by simpa using hi
      have hc := (each i hil).choose_spec
      simp only [List.getElem_map, List.getElem_range, dif_pos hil]
      generalize (each i hil).choose = x at hc
      have e : ∀ j, (((⟨b0, off, none⟩ : Addr).add (i * 2)).add j) = ⟨b0, off + i * 2 + j, none⟩ := fun j => by rw [addr_add, addr_add]
      exact ⟨by have := hc 0 (by omega); rw [e] at this; exact this, by have := hc 1 (by omega); rw [e] at this; exact this⟩
    · obtain rfl : len = 0 := by omega
      exact ⟨[], hcs, rfl, ⟨_, _, rfl, by simp, fun h => absurd h (by simp)⟩, fun h => by cases h⟩
theorem owns_in {fuel : Nat} {a : Option Addr} {len cap : Nat} {y : DataW H × List MemPlace} (h : DataW.trod enc Try.prog w base spare held fuel 44 [.slice a len cap] = some y) : ∃ l, OwnsIn w a len cap l := by
  obtain ⟨a', len', cap', l, e, h⟩ := owns_cells h
  cases e
  exact ⟨l, h⟩
theorem ask_cells {fuel : Nat} {cs : List Value} {y : DataW H × List MemPlace} (h : DataW.trod enc Try.prog w base spare held fuel 46 cs = some y) : ∃ (a : Option Addr) (len cap : Nat) (l : List Ow) (k : Int), cs = [.slice a len cap, .int .i64 k] ∧ OwnsIn w a len cap l := by
  obtain ⟨xs, n, _, _, hl, hxl, hf⟩ := DataW.trod_struct Try.underlying46 h
  rw [cells46] at hl
  obtain ⟨c0, c1, rfl⟩ := len2 hl
  obtain ⟨y0, y1, rfl⟩ := len2 (show xs.length = 2 from hxl)
  have h0 : DataW.trod enc Try.prog w base spare held n 44 (([c0, c1].drop 0).take (Try.prog.cellsOf 44)) = [y0, y1][0]? := hf 0 _ rfl
  have h1 : DataW.trod enc Try.prog w base spare held n 3 (([c0, c1].drop 1).take (Try.prog.cellsOf 3)) = [y0, y1][1]? := hf 1 _ rfl
  simp only [cells3, cells44] at h0 h1
  obtain ⟨a, len, cap, l, e0, ho⟩ := owns_cells h0
  obtain ⟨k, e1, _, _⟩ := DataW.trod_int Try.underlying3 h1
  simp at e0 e1
  exact ⟨a, len, cap, l, k, by simp [e0, e1], ho⟩
end
set_option maxRecDepth 100000
set_option maxHeartbeats 2000000
theorem refOn_any2 (n l s me : Int) (x : Sk) (w : World) : Calls Try.prog 10 #[shapeV n l s, .int .i64 me, x.val] w fun e w' => e = .returned (.tuple #[.agg #[.int .i64 (onR n l s me x).1.node, .int .i64 (onR n l s me x).1.hop], .bool (onR n l s me x).2.1, .int .i64 (onR n l s me x).2.2]) ∧ Below w.heap.size w w' := refOn_any n l s me x w
theorem on_law (n l s me : Int) (x : Sk) (w : World) : Calls Try.prog 3 #[shapeV n l s, .int .i64 me, x.val] w fun e w' => e = .returned (.bool true) ∧ Below w.heap.size w w' := by
  have H1 := Lib.hid (on_any2 n l s me x)
  have H2 := Lib.hid (refOn_any2 n l s me x)
  generalize onR n l s me x = r at *
  obtain ⟨⟨k', h'⟩, b, no⟩ := r
  obtain ⟨has, ⟨k, h⟩, o, c⟩ := x
  simp only [Sk.val, shapeV] at *
  have hq : ∀ W, (binOp .eql 25 (.agg #[.int .i64 k', .int .i64 h']) (.agg #[.int .i64 k', .int .i64 h'])).run Try.prog W = .ok (.bool true) W := by
    intro W; rw [own_eql]; simp
  go_enter Try.func3, Try.ntmps3
  go_wp2_with fail
  refine (H1.out _).mono ?_
  rintro e w1 ⟨rfl, hb⟩
  have P := Lib.hid (heap_call hb (heap_old (heap_new (W := w) rfl)))
  have Q : Hid (w1.heap[w.heap.size + 1]? = some (.cells #[.bool has, .int .i64 k, .int .i64 h, .int .i64 o, .int .i64 c] 27)) := heap_call hb (heap_new (by simp))
  have HBz := Lib.hid (((below_new _).alloc (by simp) _).trans (hb.mono (by simp; omega)))
  have p0 : w1.cell? ⟨w.heap.size, 0, none⟩ = some (.int .i64 n) := cell_of P.out 0
  have p1 : w1.cell? ⟨w.heap.size, 1, none⟩ = some (.int .i64 l) := cell_of P.out 1
  have p2 : w1.cell? ⟨w.heap.size, 2, none⟩ = some (.int .i64 s) := cell_of P.out 2
  have q0 : w1.cell? ⟨w.heap.size + 1, 0, none⟩ = some (.bool has) := cell_of Q.out 0
  have q1 : w1.cell? ⟨w.heap.size + 1, 1, none⟩ = some (.int .i64 k) := cell_of Q.out 1
  have q2 : w1.cell? ⟨w.heap.size + 1, 2, none⟩ = some (.int .i64 h) := cell_of Q.out 2
  have q3 : w1.cell? ⟨w.heap.size + 1, 3, none⟩ = some (.int .i64 o) := cell_of Q.out 3
  have q4 : w1.cell? ⟨w.heap.size + 1, 4, none⟩ = some (.int .i64 c) := cell_of Q.out 4
  have hlt := heap_lt Q.out
  have hlt0 := heap_lt P.out
  clear hb
  go_wp2_with fail
  refine (H2.out _).mono ?_
  rintro e w2 ⟨rfl, hb⟩
  have BX := Lib.hid (heap_call hb (heap_new (W := w1) (o := .cells #[.int .i64 k', .int .i64 h'] 25) rfl))
  have HB2 := Lib.hid ((HBz.out.alloc HBz.out.size (.cells #[.int .i64 k', .int .i64 h'] 25)).trans (hb.mono (by have := HBz.out.size; simp; omega)))
  have r0 : w2.cell? ⟨w1.heap.size, 0, none⟩ = some (.int .i64 k') := cell_of BX.out 0
  have r1 : w2.cell? ⟨w1.heap.size, 1, none⟩ = some (.int .i64 h') := cell_of BX.out 1
  have hlt1 := heap_lt BX.out
  clear hb p0 p1 p2 q0 q1 q2 q3 q4 hlt hlt0
  go_wp2_with (first | (go_at_call 11; refine (num_any _ _).mono ?_; rintro e w' ⟨rfl, rfl⟩) | fail)
  refine (works_any _).mono ?_
  rintro e w3 ⟨rfl, hb⟩
  have HB3 := Lib.hid ((HB2.out.alloc HB2.out.size _).trans (hb.mono (by have := HB2.out.size; simp; omega)))
  clear hb
  go_wp2
  go_ret
  exact ⟨rfl, HB3.out⟩
end Go.Proofs.Ytoanpfbdhkgncaa
