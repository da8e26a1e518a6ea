/-
  PROVED: 'Rows.OctetHoldsSaid': for every input the law OctetHolds of castellanlaw01 returns true, and what came in reads afterwards as it read before. CONDITIONS: none but the row's own.
  (The frame of this text was written by the guide's proof-skeleton.mjs; the walk is in V.)
-/
import Derived.Test.YtcdgecdcfpedfaaRows
import Derived.WalkKit
import Derived.ProofKit
import Derived.OpenShut
import Derived.ShutString
import Derived.ChangeOld
import Derived.Below
import Derived.Test.YtcdgecdcfpedfaaV
namespace Go.Proofs.Ytcdgecdcfpedfaa.octetHolds
open Go.ChangeShapes Go.WideShapes Go.ChangeAt Go.RowKit
open Go.ChangeMaps (open_string shut_string)
set_option linter.unusedVariables false

theorem own : ownKnob Try.prog.godebug = none := by kernel_rfl
theorem laidOut : laidOutB Try.prog = true := by kernel_rfl

theorem wf_parts {k : IntKind} {n : Int} (h : (Lit.int k n).wf = true) : k.min ≤ n ∧ n ≤ k.max :=
  ⟨of_decide_eq_true (Bool.and_eq_true _ _ ▸ h).1, of_decide_eq_true (Bool.and_eq_true _ _ ▸ h).2⟩

/-! ### STEP 1: THE WALK -/
theorem walk (a0 a1 a2 a3 : Int) (w : World) (w0 : (Lit.int .u64 a0).wf = true) (w1 : (Lit.int .u64 a1).wf = true) (w2 : (Lit.int .i64 a2).wf = true) (w3 : (Lit.int .i64 a3).wf = true) :
    Calls Try.prog 8 #[.int .u64 a0, .int .u64 a1, .agg #[.int .i64 a2, .int .i64 a3]] w fun e w' => e = .returned (.bool true) ∧ Below w.heap.size w w' := by
  obtain ⟨h0, h1⟩ := wf_parts w0
  obtain ⟨h2, h3⟩ := wf_parts w1
  obtain ⟨h4, h5⟩ := wf_parts w2
  obtain ⟨h6, h7⟩ := wf_parts w3
  change (0 : Int) ≤ _ at h0
  change _ ≤ (18446744073709551615 : Int) at h1
  change (0 : Int) ≤ _ at h2
  change _ ≤ (18446744073709551615 : Int) at h3
  change (-9223372036854775808 : Int) ≤ _ at h4
  change _ ≤ (9223372036854775807 : Int) at h5
  change (-9223372036854775808 : Int) ≤ _ at h6
  change _ ≤ (9223372036854775807 : Int) at h7
  obtain ⟨a, rfl⟩ := Int.eq_ofNat_of_zero_le (a := a0) h0
  obtain ⟨b, rfl⟩ := Int.eq_ofNat_of_zero_le (a := a1) h2
  exact holds_law a b a2 a3 w (by omega) (by omega) h4 h5 h6 h7

theorem list2 {α : Type} (l : List α) (h : (⟨l⟩ : Array α).size = 2) : ∃ a b, l = [a, b] := by
  match l, h with
  | [a, b], _ => exact ⟨a, b, rfl⟩
theorem cells57 : Try.prog.cellsOf 57 = 2 := by kernel_rfl
theorem cells2 : Try.prog.cellsOf 2 = 1 := by kernel_rfl

/-! ### THE ROW's STEP: WRITTEN OUT: LEAVE IT -/
set_option maxRecDepth 100000 in
theorem lifted (os : Os) (started : os.Started) (H : Type) (enc : TypeId × Value → H) :
    ReturnsInHanded {} Try.checked os 8 .any (Rows.octetHoldsSpec.pre6 enc Try.prog Try.f8 Rows.octetHoldsRow.domain false) (Rows.octetHoldsSpec.post enc Try.prog Try.f8 false true false false) := by
  refine returnsInHanded_of_change (C := Try.checked) own started (by kernel_rfl) Try.func8
    (ChangeSpec.witness6 (enc := enc) (C := Try.checked) false ⟨#[], #[.int .u64 0, .int .u64 0, .agg #[.int .i64 0, .int .i64 0]], []⟩ 8 (by kernel_rfl) (by kernel_rfl) (by kernel_rfl) (by kernel_rfl)) ?_
  intro W base args ds gs before hval0 hW hcnd _
  have hval : ∀ (j : Nat) t v, Try.f8.params[j]? = some t → args[j]? = some v → Value.okWide Try.prog W .any base t v := hval0
  have hW' := hW
  obtain ⟨p, q, hA0, hV, rfl, hfz, hnd⟩ := hW
  have hA : DataW.TrodAll enc Try.prog W 0 (fun _ => true) true Try.f8.params.toList args.toList ds p := hA0
  rw [Try.params8] at hA hval
  obtain ⟨v0, vs0, d0, ds0, p0, q0, hargs, rfl, rfl, h0, r0⟩ := trodAll_cons hA
  obtain ⟨v1, vs1, d1, ds1, p1, q1, rfl, rfl, rfl, h1, r1⟩ := trodAll_cons r0
  obtain ⟨v2, vs2, d2, ds2, p2, q2, rfl, rfl, rfl, h2, r2⟩ := trodAll_cons r1
  obtain ⟨rfl, rfl, rfl⟩ := trodAll_nil r2
  obtain rfl : args = #[v0, v1, v2] := by cases args; simp_all
  obtain ⟨rfl, rfl⟩ := trodVars_none hV
  obtain ⟨a0, rfl, rfl, rfl, w0⟩ := open_int Try.underlying22 (hval 0 22 v0 rfl rfl) h0
  obtain ⟨a1, rfl, rfl, rfl, w1⟩ := open_int Try.underlying22 (hval 1 22 v1 rfl rfl) h1
  have k2 := h2
  have lt2 : ∀ x ∈ p2, x.block < W.heap.size := by obtain ⟨m, hm⟩ := k2; exact DataW.trod_lt m _ _ _ hm
  obtain ⟨cs, rfl, hsz, _⟩ : ∃ cs, v2 = .agg cs ∧ cs.size = Try.prog.cellsOf 57 ∧ Row.okWide Try.prog W .any base 57 cs := by
    have := hval 2 57 v2 rfl rfl
    simpa [Value.okWide, Try.underlying57] using this
  rw [cells57] at hsz
  obtain ⟨l⟩ := cs
  obtain ⟨c0, c1, rfl⟩ := list2 l hsz
  obtain ⟨fuel, hf⟩ := h2
  obtain ⟨xs, m, _, hx, _, hxl, he⟩ := DataW.trod_array Try.underlying57 hf
  have hy0 := he 0 (by decide)
  have hy1 := he 1 (by decide)
  rw [cells2] at hy0 hy1
  obtain ⟨y0, y1, rfl⟩ := list2 xs (by simpa using hxl)
  obtain ⟨a2, e2, _, w2⟩ := DataW.trod_int Try.underlying2 hy0
  obtain ⟨a3, e3, _, w3⟩ := DataW.trod_int Try.underlying2 hy1
  simp [Value.cells] at e2 e3
  subst e2 e3
  clear hA0 hval0
  refine (walk a0 a1 a2 a3 W w0 w1 w2 w3).mono fun e W' ⟨he, bel⟩ => ?_
  subst he
  exact ⟨_, rfl, _, _, _, [], _, [], hW', trodAll_mk1 (shut_bool Try.underlying4 _), (trodAll_cons_mk (shut_int Try.underlying22 w0) (trodAll_cons_mk (shut_int Try.underlying22 w1) (trodAll_cons_mk (Below.trod laidOut (by kernel_rfl) (of_decide_eq_true (by kernel_rfl)) k2 bel lt2) trodAll_mk0))), rfl, bel.frame _, fun h => by cases h⟩

theorem over : Rows.octetHoldsRow.holds Try.pinned (OpenSpec.ofChange Rows.octetHoldsSpec) :=
  OpenClaim.holds_of_wide 8 Try.f8 rfl rfl rfl rfl rfl rfl rfl ⟨rfl, rfl, rfl, rfl, rfl⟩ rfl rfl rfl rfl rfl (by kernel_rfl) Try.func8 (by kernel_rfl)
    (of_decide_eq_true (by kernel_rfl)) (by unfold Func.isWrapper; first | (rw [if_pos (by decide +kernel)]; kernel_rfl) | (rw [if_neg (by decide +kernel)]; exact ⟨rfl, rfl⟩))
    (fun os started H enc _ => lifted os started H enc)

/-- THE STATEMENT -/
theorem proved : Rows.OctetHoldsSaid := over
#print axioms proved
end Go.Proofs.Ytcdgecdcfpedfaa.octetHolds
