/-
  PROVED: The contract of the law's lent: a copy of bytes with 77 behind it. CONDITIONS: at most 100000 bytes.
-/
import Derived.Test.YtcdgecdcfpedfaaN
namespace Go.Proofs.Ytcdgecdcfpedfaa
open Go.RowKit Oc
/-- What a slice of bytes holds, for an append of it. -/
theorem Bytes.news {w : World} {x : Addr} {len : Nat} {zs : List Int} (h : Bytes w (some x) len zs) : ∀ j u, (zs.map (Value.int .u8))[j]? = some u → w.cell? (x.add j) = some u := by
  obtain ⟨h1, h2, h3⟩ := h
  intro j u hu
  rw [List.getElem?_map] at hu
  by_cases hj : j < zs.length
  · rw [List.getElem?_eq_getElem hj] at hu
    obtain ⟨b, off, ha, hc⟩ := h3 (by omega)
    cases ha
    rw [show (⟨b, off, none⟩ : Addr).add j = ⟨b, off + j, none⟩ by simp [Addr.add], hc j (by omega)]
    simp [List.getD, List.getElem?_eq_getElem hj] at hu ⊢
    exact hu
  · rw [List.getElem?_eq_none (by omega)] at hu; simp at hu
/-- 'append(s, x...)' at bytes, whatever slice x is. -/
theorem wpList_append_bytes {w : World} {ops : Array Oper} {rest : List Oper} {o : Oper} {a : Act} {Q : Exit → Act → World → Prop} (hgd : o.guard = none) (s x : Operand)
    (ho : o.op = .call { callee := .builtin .append, args := #[s, x], argTypes := #[23, 23] })
    (base : Nat) (v : Value) (n : Nat) (xs : List Value) (hs : a.eval s = v) (hown : w.ownsRow base 5 1 v n xs)
    (ad : Option Addr) (len cap : Nat) (zs : List Int) (hx : a.eval x = .slice ad len cap) (hz : Bytes w ad len zs) (hn : ad = none → cap = 0) (hlc : len ≤ cap)
    (hsz : n + len ≤ 140737488355328) (hbase : base ≤ w.heap.size)
    (h : ∀ v' w', w'.ownsRow base 5 1 v' (n + len) (xs ++ zs.map (Value.int .u8)) → w.grownBy w' v.ownBlock → wpList Try.prog ops Q rest (a.put o.dst v') w') : wpList Try.prog ops Q (o :: rest) a w := by
  obtain ⟨i0, hi, hz0, hz1, hz2⟩ := info_parts Try.info5
  cases ad with
  | none =>
    obtain rfl : cap = 0 := hn rfl
    obtain rfl : len = 0 := by omega
    obtain rfl : zs = [] := List.length_eq_zero_iff.1 hz.1
    refine wpList_append_own_none hgd s x 23 ho base 5 i0 1 Try.underlying23 hi v n xs hs hown hx ?_
    exact h v w (by simpa using hown) (World.grownBy.refl _ _)
  | some y =>
    refine wpList_append_own w hgd s x 23 ho base 5 i0 (.int .u8 0) 1 1 Try.underlying23 hi hz0 hz1 hz2 rfl (by decide) v n xs hs hown y len cap (zs.map (Value.int .u8)) hx (by simp [hz.1]) hz.news (ints_oneCell _ _) (by unfold maxLen; omega) (by omega) hbase ?_
    intro v' w' h1 h2 _
    exact h v' w' h1 h2
/-- A copy with room behind it, in which 77 stands. -/
def LentPost (zs : List Int) (w : World) (e : Ending) (w' : World) : Prop :=
  ∃ g cp, e = .returned (.slice (some ⟨g, 0, none⟩) zs.length cp) ∧ w'.ownsRow w.heap.size 5 1 (.slice (some ⟨g, 0, none⟩) (zs.length + 1) cp) (zs.length + 1) ((zs ++ [77]).map (Value.int .u8)) ∧ Below w.heap.size w w' ∧ zs.length + 1 ≤ cp ∧ cp ≤ 9223372036854775807

set_option maxRecDepth 100000 in
set_option maxHeartbeats 400000 in
theorem lent_any (a : Option Addr) (len cap : Nat) (zs : List Int) (w : World) (hz : Bytes w a len zs) (hn : a = none → cap = 0) (hlc : len ≤ cap) (hsz : len ≤ 100000) :
    Calls Try.prog 18 #[.slice a len cap] w (LentPost zs w) := by
  obtain ⟨i0, hi, hz0, hz1, hz2⟩ := info_parts Try.info5
  have HL := Lib.hid hz.1
  have HN := Lib.hid hn
  have hb1 : Below w.heap.size w (w.alloc (.cells #[] 5)) := (Below.refl _ w).alloc (Nat.le_refl _) _
  have HB1 := Lib.hid hb1
  have HZ := Lib.hid (hz.below hb1 (Nat.le_refl _))
  have HO1 : Hid ((w.alloc (.cells #[] 5)).ownsRow w.heap.size 5 1 (.slice (some ⟨w.heap.size, 0, none⟩) 0 0) 0 []) := World.ownsRow_lit w #[] 0 (Nat.le_refl _) (Nat.zero_le _) rfl
  clear hb1 hz hn
  go_enter Try.func18, Try.ntmps18
  go_wp2_with (at_builtin; refine wpList_append_bytes rfl (.tmp 3) (.tmp 4) rfl w.heap.size _ _ _ rfl HO1.out a len cap zs rfl HZ.out HN.out hlc (by omega) (by simp) ?_)
  intro v2 w2 hown2 hgrow2
  have HB2 := Lib.hid (HB1.out.grown hgrow2 (by simp) (fun k hk => (HO1.out.lt k hk).1))
  have HO2 := Lib.hid hown2
  have hs2 := HB2.out.size
  clear hgrow2 hown2
  go_wp2_with (at_builtin; refine wpList_append_own _ rfl (.tmp 5) (.tmp 6) 23 rfl w.heap.size 5 i0 (.int .u8 0) 1 1 Try.underlying23 hi hz0 hz1 hz2 rfl (by decide) _ _ _ rfl (HO2.out.alloc _) ⟨w2.heap.size, 0, none⟩ 1 1 [.int .u8 77] rfl rfl (cell_one_new _ _ _) (by simp [Value.oneCell']) (by unfold maxLen; omega) (by omega) (by simp; omega) ?_)
  intro v3 w3 hown3 hgrow3 _
  have HB3 := Lib.hid ((HB2.out.alloc hs2 _).grown hgrow3 (by simp; omega) (fun k hk => (HO2.out.lt k hk).1))
  obtain ⟨g, cp, rfl, hg, hgc, hgm⟩ := row_addr hown3 (by omega)
  unfold maxLen at hgm
  have HO3 := Lib.hid hown3
  clear hgrow3 hown3
  go_wp2
  go_ret
  refine ⟨g, cp, by rw [HL.out]; rfl, ?_, HB3.out, by rw [HL.out]; omega, hgm⟩
  rw [HL.out]
  simpa using HO3.out
end Go.Proofs.Ytcdgecdcfpedfaa
