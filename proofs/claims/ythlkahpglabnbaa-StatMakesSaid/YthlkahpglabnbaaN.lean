/-
  PROVED: How a shape, a status, a list of statuses that came in are read. CONDITIONS: none besides.
-/
import Derived.Test.YthlkahpglabnbaaM
import Derived.Deep.Slices
import Derived.ChangeSame
namespace Go.Proofs.Ythlkahpglabnbaa
open Go.RowKit Go.ChangeShapes Go.WideShapes Go.Deep
section
variable {H : Type} {enc : TypeId × Value → H} {w : World} {base : Nat} {spare : Nat → Bool} {held : Bool}
theorem cells23 : Try.prog.cellsOf 23 = 3 := by kernel_rfl
theorem cells27 : Try.prog.cellsOf 27 = 4 := by kernel_rfl
theorem cells29 : Try.prog.cellsOf 29 = 5 := by kernel_rfl
theorem cells3 : Try.prog.cellsOf 3 = 1 := by kernel_rfl
theorem cells2 : Try.prog.cellsOf 2 = 1 := by kernel_rfl
theorem cells4 : Try.prog.cellsOf 4 = 1 := by kernel_rfl
theorem cells25 : Try.prog.cellsOf 25 = 1 := by kernel_rfl
theorem len3 {α : Type} {l : List α} (h : l.length = 3) : ∃ a b c, l = [a, b, c] := by
  match l, h with
  | [a, b, c], _ => exact ⟨a, b, c, rfl⟩
theorem len4 {α : Type} {l : List α} (h : l.length = 4) : ∃ a b c d, l = [a, b, c, d] := by
  match l, h with
  | [a, b, c, d], _ => exact ⟨a, b, c, d, rfl⟩
theorem len5 {α : Type} {l : List α} (h : l.length = 5) : ∃ a b c d e, l = [a, b, c, d, e] := by
  match l, h with
  | [a, b, c, d, e], _ => exact ⟨a, b, c, d, e, rfl⟩
/-- A status, as it is read. -/
theorem stat_cells {fuel : Nat} {cs : List Value} {y : DataW H × List MemPlace} (h : DataW.trod enc Try.prog w base spare held fuel 27 cs = some y) : ∃ x : St, cs = x.cells := by
  obtain ⟨xs, n, _, _, hl, hxl, hf⟩ := DataW.trod_struct Try.underlying27 h
  rw [cells27] at hl
  obtain ⟨c0, c1, c2, c3, rfl⟩ := len4 hl
  obtain ⟨y0, y1, y2, y3, rfl⟩ := len4 (show xs.length = 4 from hxl)
  have h0 : DataW.trod enc Try.prog w base spare held n 2 (([c0, c1, c2, c3].drop 0).take (Try.prog.cellsOf 2)) = [y0, y1, y2, y3][0]? := hf 0 _ rfl
  have h1 : DataW.trod enc Try.prog w base spare held n 4 (([c0, c1, c2, c3].drop 1).take (Try.prog.cellsOf 4)) = [y0, y1, y2, y3][1]? := hf 1 _ rfl
  have h2 : DataW.trod enc Try.prog w base spare held n 25 (([c0, c1, c2, c3].drop 2).take (Try.prog.cellsOf 25)) = [y0, y1, y2, y3][2]? := hf 2 _ rfl
  have h3 : DataW.trod enc Try.prog w base spare held n 3 (([c0, c1, c2, c3].drop 3).take (Try.prog.cellsOf 3)) = [y0, y1, y2, y3][3]? := hf 3 _ rfl
  simp only [cells2, cells3, cells4, cells25] at h0 h1 h2 h3
  obtain ⟨a, e0, _, _⟩ := DataW.trod_int Try.underlying2 h0
  obtain ⟨b, e1, _⟩ := DataW.trod_bool Try.underlying4 h1
  obtain ⟨c, e2, _, _⟩ := DataW.trod_int Try.underlying25 h2
  obtain ⟨d, e3, _, _⟩ := DataW.trod_int Try.underlying3 h3
  simp at e0 e1 e2 e3
  exact ⟨⟨a, b, c, d⟩, by simp [St.cells, e0, e1, e2, e3]⟩
theorem shape_cells {fuel : Nat} {cs : List Value} {y : DataW H × List MemPlace} (h : DataW.trod enc Try.prog w base spare held fuel 23 cs = some y) : ∃ n l s : Int, cs = [.int .i64 n, .int .i64 l, .int .i64 s] := by
  obtain ⟨xs, n, _, _, hl, hxl, hf⟩ := DataW.trod_struct Try.underlying23 h
  rw [cells23] at hl
  obtain ⟨c0, c1, c2, rfl⟩ := len3 hl
  obtain ⟨y0, y1, y2, rfl⟩ := len3 (show xs.length = 3 from hxl)
  have h0 : DataW.trod enc Try.prog w base spare held n 3 (([c0, c1, c2].drop 0).take (Try.prog.cellsOf 3)) = [y0, y1, y2][0]? := hf 0 _ rfl
  have h1 : DataW.trod enc Try.prog w base spare held n 3 (([c0, c1, c2].drop 1).take (Try.prog.cellsOf 3)) = [y0, y1, y2][1]? := hf 1 _ rfl
  have h2 : DataW.trod enc Try.prog w base spare held n 3 (([c0, c1, c2].drop 2).take (Try.prog.cellsOf 3)) = [y0, y1, y2][2]? := hf 2 _ rfl
  simp only [cells3] at h0 h1 h2
  obtain ⟨a, e0, _, _⟩ := DataW.trod_int Try.underlying3 h0
  obtain ⟨b, e1, _, _⟩ := DataW.trod_int Try.underlying3 h1
  obtain ⟨c, e2, _, _⟩ := DataW.trod_int Try.underlying3 h2
  simp at e0 e1 e2
  exact ⟨a, b, c, by simp [e0, e1, e2]⟩
theorem news_cells {fuel : Nat} {cs : List Value} {y : DataW H × List MemPlace} (h : DataW.trod enc Try.prog w base spare held fuel 29 cs = some y) : ∃ (n : Int) (x : St), (Lit.int .i64 n).wf = true ∧ cs = .int .i64 n :: x.cells := by
  obtain ⟨xs, n, _, _, hl, hxl, hf⟩ := DataW.trod_struct Try.underlying29 h
  rw [cells29] at hl
  obtain ⟨c0, c1, c2, c3, c4, rfl⟩ := len5 hl
  have h0 : DataW.trod enc Try.prog w base spare held n 3 (([c0, c1, c2, c3, c4].drop 0).take (Try.prog.cellsOf 3)) = xs[0]? := hf 0 _ rfl
  have h1 : DataW.trod enc Try.prog w base spare held n 27 (([c0, c1, c2, c3, c4].drop 1).take (Try.prog.cellsOf 27)) = xs[1]? := hf 1 _ rfl
  simp only [cells3, cells27] at h0 h1
  rw [show xs[0]? = some (xs[0]'(by rw [hxl]; decide)) from List.getElem?_eq_getElem _] at h0
  rw [show xs[1]? = some (xs[1]'(by rw [hxl]; decide)) from List.getElem?_eq_getElem _] at h1
  obtain ⟨a, e0, _, hw⟩ := DataW.trod_int Try.underlying3 h0
  obtain ⟨x, e1⟩ := stat_cells h1
  simp at e0 e1
  exact ⟨a, x, hw, by simp [e0, ← e1]⟩
theorem addr_add (b o j : Nat) : (⟨b, o, none⟩ : Addr).add j = ⟨b, o + j, none⟩ := by simp [Addr.add]
theorem stats_in {fuel : Nat} {a : Option Addr} {len cap : Nat} {y : DataW H × List MemPlace} (h : DataW.trod enc Try.prog w base spare held fuel 24 [.slice a len cap] = some y) : ∃ l, StatsIn w a len cap l := by
  rcases open_slice Try.underlying24 h with ⟨hcs, _⟩ | ⟨b, ln, cp, m, n, D, Pl, hcs, hb, hl, hm, hmm, hx, hi⟩
  · simp at hcs
    obtain ⟨rfl, rfl, rfl⟩ := hcs
    exact ⟨[], rfl, stats_nil _, fun _ => rfl⟩
  · simp at hcs
    obtain ⟨rfl, rfl, rfl⟩ := hcs
    have hle : len ≤ m := by rw [hmm]; split <;> omega
    have each : ∀ i, i < len → ∃ x : St, ∀ j, j < 4 → w.cell? ((b.add (i * 4)).add j) = x.cells[j]? := by
      intro i hil
      obtain ⟨cs', hc, ht'⟩ := hi i (by omega)
      rw [cells27] at hc
      obtain ⟨x, rfl⟩ := stat_cells ht'
      obtain ⟨_, hcl, hat⟩ := World.cells?_some hc
      exact ⟨x, fun j hj => hat j hj⟩
    obtain ⟨b0, off, spot⟩ := b
    by_cases h0 : 0 < len
    · obtain ⟨x0, hx0⟩ := each 0 h0
      have h1 := hx0 0 (by omega)
      have hspot : spot = none := by
        have := World.cell?_spot (w := w) (show _ = some _ from h1)
        simpa [Addr.add] using this
      subst hspot
      refine ⟨(List.range len).map fun i => if h : i < len then (each i h).choose else St.zero, by simp, ⟨some ⟨b0, off, none⟩, cap, by simp, by simp; unfold maxLen at hm; omega, fun _ => ⟨b0, off, rfl, fun i hi => ?_⟩⟩, fun h => by cases h⟩
      have hil : i < len := by simpa using hi
      have hc := (each i hil).choose_spec
      simp only [List.getElem_map, List.getElem_range, dif_pos hil]
      generalize (each i hil).choose = x at hc
      have e : ∀ j, (((⟨b0, off, none⟩ : Addr).add (i * 4)).add j) = ⟨b0, off + i * 4 + j, none⟩ := fun j => by rw [addr_add, addr_add]
      exact ⟨by have := hc 0 (by omega); rw [e] at this; exact this, by have := hc 1 (by omega); rw [e] at this; exact this, by have := hc 2 (by omega); rw [e] at this; exact this, by have := hc 3 (by omega); rw [e] at this; exact this⟩
    · obtain rfl : len = 0 := by omega
      exact ⟨[], rfl, ⟨_, _, rfl, by simp, fun h => absurd h (by simp)⟩, fun h => by cases h⟩
end
end Go.Proofs.Ythlkahpglabnbaa
