/-
  PROVED: How lists of ints and pairs that came in are read. CONDITIONS: none besides.
-/
import Derived.Test.YtoanpfbdhkgncaaW
import Derived.OpenShut
namespace Go.Proofs.Ytoanpfbdhkgncaa
open Go.RowKit Go.ChangeShapes Go.WideShapes Go.Deep
section
variable {H : Type} {enc : TypeId × Value → H} {w : World} {base : Nat} {spare : Nat → Bool} {held : Bool}
theorem cells56 : Try.prog.cellsOf 56 = 2 := by kernel_rfl
theorem ints_in {fuel : Nat} {a : Option Addr} {len cap : Nat} {y : DataW H × List MemPlace} (h : DataW.trod enc Try.prog w base spare held fuel 38 [.slice a len cap] = some y) : ∃ l : List Int, len = l.length ∧ Ints w (.slice a len cap) l := by
  rcases open_ints Try.underlying38 Try.underlying3 (by kernel_rfl) h with ⟨hcs, _⟩ | ⟨x, l, c, zs, hcs, _, hl, hm, hz, _, hcell, hwz⟩
  · simp at hcs
    obtain ⟨rfl, rfl, rfl⟩ := hcs
    exact ⟨[], rfl, ints_nil _⟩
  · simp at hcs
    obtain ⟨rfl, rfl, rfl⟩ := hcs
    have hzl : len ≤ zs.length := by rw [hz]; split <;> omega
    refine ⟨zs.take len, by simp; omega, some x, cap, by simp; omega, by simp; unfold maxLen at hm; omega, fun h0 => ?_⟩
    simp only [List.length_take] at h0
    obtain ⟨b, off, spot⟩ := x
    have h1 := hcell 0 (by omega)
    have hspot : spot = none := by simpa [Addr.add] using World.cell?_spot h1
    subst hspot
    refine ⟨b, off, rfl, fun i hi => ?_⟩
    simp only [List.length_take] at hi
    have h2 := hcell i (by omega)
    rw [addr_add] at h2
    rw [h2]
    simp [List.getD_eq_getElem?_getD, List.getElem?_eq_getElem (show i < zs.length by omega)]
theorem pair_cells {fuel : Nat} {cs : List Value} {y : DataW H × List MemPlace} (h : DataW.trod enc Try.prog w base spare held fuel 56 cs = some y) : ∃ x0 x1 : Int, cs = [.int .i64 x0, .int .i64 x1] := by
  obtain ⟨xs, m, _, _, hl, hxl, he⟩ := DataW.trod_array Try.underlying56 h
  rw [cells56] at hl
  obtain ⟨c0, c1, rfl⟩ := len2 hl
  have hy0 := he 0 (by decide)
  have hy1 := he 1 (by decide)
  rw [cells3] at hy0 hy1
  obtain ⟨y0, y1, rfl⟩ := len2 (show xs.length = 2 by simpa using hxl)
  obtain ⟨a2, e2, _, _⟩ := DataW.trod_int Try.underlying3 hy0
  obtain ⟨a3, e3, _, _⟩ := DataW.trod_int Try.underlying3 hy1
  simp at e2 e3
  exact ⟨a2, a3, by simp [e2, e3]⟩
end
end Go.Proofs.Ytoanpfbdhkgncaa
