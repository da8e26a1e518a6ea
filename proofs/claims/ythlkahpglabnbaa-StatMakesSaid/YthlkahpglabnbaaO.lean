/-
  PROVED: The contract of stat.New. CONDITIONS: none.
-/
import Derived.Test.YthlkahpglabnbaaM
namespace Go.Proofs.Ythlkahpglabnbaa
open Go.RowKit
set_option maxRecDepth 100000
set_option maxHeartbeats 1000000
/-- 'make([]Stat, n)' in a list of operations. -/
theorem wpList_make_stats {w : World} {ops : Array Oper} {rest : List Oper} {o : Oper} {a : Act} {Q : Exit → Act → World → Prop} (hgd : o.guard = none) (l c : Operand) (hop : o.op = Op.makeSlice 24 l c) (n : Nat) (hl : a.eval l = .int .i64 (n : Int)) (hc : a.eval c = .int .i64 (n : Int)) (hn : n ≤ 1000) (base : Nat) (hb : base ≤ w.heap.size) (g : Nat) (hg : w.heap.size = g)
    (hK : ∀ w', w'.ownsRow base 27 4 (.slice (some ⟨g, 0, none⟩) n n) n (flat (List.replicate n St.zero)) → w.grownBy w' none → wpList Try.prog ops Q rest (a.put o.dst (.slice (some ⟨g, 0, none⟩) n n)) w') : wpList Try.prog ops Q (o :: rest) a w :=
  wpList_plain hgd fun _ hK' => oper_make l c hop n hl hc hn base hb g hg fun w' h1 h2 => hK' _ _ (hK w' h1 h2)
/-- What is known at first. -/
def newL (n l s : Int) : List St := List.replicate (siteNo n l s) St.zero
theorem new_any (n l s : Int) (w : World) : Calls Try.prog 13 #[shapeV n l s] w fun e w' => (∃ v, e = .returned (.tuple #[v, .int .i64 (shapeNo n l s)]) ∧ Stats w' v (newL n l s) ∧ ∀ m c, v = .slice none m c → c = 0) ∧ Below w.heap.size w w' := by
  have HS := Lib.hid (sites_any n l s)
  have hc := siteNo_le n l s
  unfold newL shapeNo at *
  cases hok : shapeOk n l s
  · have h0 : siteNo n l s = 0 := by simp [siteNo, hok]
    rw [hok, h0] at HS
    rw [h0]
    clear hok h0 hc
    unfold shapeV at *
    go_enter Try.func13, Try.ntmps13
    go_wp2_with fail
    refine (HS.out _).mono ?_
    rintro e w1 ⟨rfl, hb⟩
    have HB := Lib.hid ((below_new _).trans (hb.mono (by simp)))
    clear hb
    go_wp2
    go_ret2
    exact ⟨⟨_, rfl, stats_nil _, fun m c h => by cases h; rfl⟩, HB.out⟩
  · rw [hok] at HS
    generalize siteNo n l s = c at *
    clear hok
    unfold shapeV at *
    go_enter Try.func13, Try.ntmps13
    go_wp2_with fail
    refine (HS.out _).mono ?_
    rintro e w1 ⟨rfl, hb⟩
    have HB := Lib.hid ((below_new _).trans (hb.mono (by simp)))
    have hsz := HB.out.size
    clear hb
    go_wp2_with (refine wpList_make_stats rfl (.tmp 14) (.tmp 14) rfl c rfl rfl (by omega) w.heap.size hsz w1.heap.size rfl ?_)
    intro w2 h1 h2
    have HB2 := Lib.hid (HB.out.trans ((below_of_none h2).mono hsz))
    have HST : Hid (Stats w2 (.slice (some ⟨w1.heap.size, 0, none⟩) c c) (List.replicate c St.zero)) := Lib.hid (by
      have h := Stats.of_row (l := List.replicate c St.zero) (v := .slice (some ⟨w1.heap.size, 0, none⟩) c c) (by rw [List.length_replicate]; exact h1)
      exact h)
    clear h1 h2
    go_wp2
    go_ret2
    exact ⟨⟨_, rfl, HST.out, fun m c h => by cases h⟩, HB2.out⟩
end Go.Proofs.Ythlkahpglabnbaa
