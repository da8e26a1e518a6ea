/-
  PROVED: The contract of the reference's New. CONDITIONS: the shape may be.
-/
import Derived.Test.YthlkahpglabnbaaO
namespace Go.Proofs.Ythlkahpglabnbaa
open Go.RowKit
set_option maxRecDepth 100000
set_option maxHeartbeats 1000000
theorem refNew_any (n l s : Int) (w : World) (hok : shapeOk n l s = true) : Calls Try.prog 19 #[shapeV n l s] w fun e w' => (∃ v, e = .returned v ∧ Stats w' v (newL n l s)) ∧ Below w.heap.size w w' := by
  have hsp := shape_parts hok
  obtain ⟨hm0, hm1⟩ := many_le hsp
  have hsn : ((siteNo n l s : Nat) : Int) = n * s := by simp only [siteNo, hok, if_true]; omega
  have hc := siteNo_le n l s
  unfold newL
  generalize siteNo n l s = c at *
  clear hok hsp
  unfold shapeV
  have hb0 := below_new (w := w) (.cells #[.int .i64 n, .int .i64 l, .int .i64 s] 23)
  have HB := Lib.hid hb0
  clear hb0
  go_enter Try.func19, Try.ntmps19
  go_wp2_with (refine wpList_make_stats rfl (.tmp 7) (.tmp 7) rfl c (by show Value.int .i64 _ = _; rw [hsn]) (by show Value.int .i64 _ = _; rw [hsn]) (by omega) w.heap.size (by simp) (w.heap.size + 1) (by simp) ?_)
  intro w2 h1 h2
  have HB2 := Lib.hid (HB.out.trans ((below_of_none h2).mono (by simp)))
  have HST : Hid (Stats w2 (.slice (some ⟨w.heap.size + 1, 0, none⟩) c c) (List.replicate c St.zero)) := Lib.hid (by
    have h := Stats.of_row (l := List.replicate c St.zero) (v := .slice (some ⟨w.heap.size + 1, 0, none⟩) c c) (by rw [List.length_replicate]; exact h1)
    exact h)
  clear h1 h2
  go_wp2
  go_ret
  exact ⟨⟨_, rfl, HST.out⟩, HB2.out⟩
end Go.Proofs.Ythlkahpglabnbaa
