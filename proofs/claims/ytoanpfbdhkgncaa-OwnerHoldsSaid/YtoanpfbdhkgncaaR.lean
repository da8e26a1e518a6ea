/-
  PROVED: Marks of loops over iterators: the blocks for their rounds' deferred calls, taken over at the return. CONDITIONS: none.
-/
import Derived.Test.YtoanpfbdhkgncaaQ
import Derived.Deep.DeepCutAuto
import Derived.Deep.LoopGhost
namespace Go.Proofs.Ytoanpfbdhkgncaa
open Go.RowKit
/-- The blocks of loops that are over, the last one first, each of them at B or beyond and below U. -/
def Marks (B : Nat) : Nat → List Deferred → World → Prop
  | _, [], _ => True
  | U, d :: ds, W => ∃ D, d = { target := .collected D, args := #[] } ∧ B ≤ D ∧ D < U ∧ W.heap[D]? = some (.deferred (some [])) ∧ Marks B D ds W
theorem Marks.kept {B : Nat} {W W' : World} (hk : ∀ (k : Nat) (o : Obj), W.heap[k]? = some o → o.isCells = false → W'.heap[k]? = some o) : ∀ {ds : List Deferred} {U : Nat}, Marks B U ds W → Marks B U ds W'
  | [], _, _ => trivial
  | _ :: _, _, ⟨D, h1, h2, h3, h4, h5⟩ => ⟨D, h1, h2, h3, hk D _ h4 rfl, Marks.kept hk h5⟩
theorem Marks.call {B U : Nat} {ds : List Deferred} {W W' : World} (h : Marks B U ds W) (hb : Below W.heap.size W W') : Marks B U ds W' := h.kept fun _ _ hk _ => heap_call hb hk
theorem Marks.set {B U k : Nat} {ds : List Deferred} {W : World} {c : Array Value} {t : TypeId} (h : Marks B U ds W) (hk : W.heap[k]? = some (.cells c t)) (i : Nat) (v : Value) : Marks B U ds (W.setCell ⟨k, i, none⟩ v) :=
  h.kept fun j o hj ho => (Below.heap_setCell _ _ _ _ (by
    intro e
    obtain rfl : j = k := e
    rw [hk] at hj
    cases hj
    cases ho)).trans hj
theorem Marks.own {β : Type} {B L : Nat} : ∀ {ds : List Deferred} {U : Nat}, U ≤ L → OwnFrom (β := β) L (fun _ W => Marks B U ds W)
  | [], _, _ => fun _ _ _ _ _ _ _ => trivial
  | _ :: _, _, hU => fun s W W' row ⟨D, h1, h2, h3, h4, h5⟩ hg hr => ⟨D, h1, h2, h3, (hg.block D (heap_lt h4) (fun e => by have := (hr D e.symm).1; omega)).trans h4, Marks.own (β := β) (by omega) s W W' row h5 hg hr⟩
theorem Marks.mono {B U U' : Nat} {ds : List Deferred} {W : World} (h : Marks B U ds W) (hU : U ≤ U') : Marks B U' ds W := by
  cases ds with
  | nil => trivial
  | cons d ds =>
    obtain ⟨D, h1, h2, h3, h4⟩ := h
    exact ⟨D, h1, h2, by omega, h4⟩
theorem Marks.kept' {B : Nat} {W W' : World} : ∀ {ds : List Deferred} {U : Nat}, Marks B U ds W → (∀ k, k < U → W'.heap[k]? = W.heap[k]?) → Marks B U ds W'
  | [], _, _, _ => trivial
  | _ :: _, _, ⟨D, h1, h2, h3, h4, h5⟩, hk => ⟨D, h1, h2, h3, (hk D h3).trans h4, Marks.kept' h5 fun k h => hk k (by omega)⟩
/-- At the return the marks are taken off, one by one. -/
theorem Marks.leave {F : Fence} {n : Nat} {P : Program} {fn : Func} {tmps : Array Value} {R : Ending → World → Prop} {B : Nat} : ∀ {ds : List Deferred} {U : Nat} {W : World}, Marks B U ds W →
    (∀ W', Below B W W' → (∀ (k : Nat) (o : Obj), W.heap[k]? = some o → o.isCells = true → W'.heap[k]? = some o) → ∃ v, (results fn tmps).run P W' = .ok v W' ∧ R (.returned v) W') → LeavesInM F n P fn tmps R ds .returning W
  | [], _, W, _, hR => hR W (Below.refl _ _) (fun _ _ h _ => h)
  | _ :: _, _, W, ⟨D, h1, h2, h3, h4, h5⟩, hR => by
    subst h1
    refine ⟨by simp, .inl ⟨_, _, rfl, run_takeDeferred h4, ?_⟩⟩
    refine Marks.leave (Marks.kept' h5 ?_) fun W' hb hc => hR W' ?_ fun k o hk ho => hc k o ((World.putObj_heap_other (fun e => by subst e; rw [h4] at hk; cases hk; cases ho)).trans hk) ho
    · intro k hk
      exact World.putObj_heap_other (by omega)
    · refine Below.trans ?_ hb
      exact (Below.refl B W).grown (grownBy_putObj' W D (.deferred none)) (by have := heap_lt h4; omega) (fun k e => by cases e; exact h2)
end Go.Proofs.Ytoanpfbdhkgncaa
