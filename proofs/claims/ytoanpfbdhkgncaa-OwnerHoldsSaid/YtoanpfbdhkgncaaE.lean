/-
  PROVED: The way of a status in plain terms. CONDITIONS: none.
-/
import Derived.Test.YtoanpfbdhkgncaaD
namespace Go.Proofs.Ytoanpfbdhkgncaa
/-- To which guess a status goes on from a node. -/
def goes (L : List Ow) (origin me c : Int) : Option Ow :=
  match L[me.toNat]? with
  | none => none
  | some o => if o.node = me ∨ o.node = origin ∨ o.hop ≤ c then none else some o
def wayF (L : List Ow) (origin : Int) : Nat → Int → Int → List Ow
  | 0, _, _ => []
  | k + 1, me, c => match goes L origin me c with
    | none => []
    | some o => o :: wayF L origin k o.node o.hop
/-- How many guesses are later. -/
def rank (L : List Ow) (c : Int) : Nat := (L.filter fun o => decide (c < o.hop)).length
theorem goes_some {L : List Ow} {origin me c : Int} {o : Ow} (h : goes L origin me c = some o) : o ∈ L ∧ c < o.hop ∧ o.node ≠ me ∧ o.node ≠ origin ∧ L[me.toNat]? = some o := by
  unfold goes at h
  cases hL : L[me.toNat]? with
  | none => rw [hL] at h; cases h
  | some x =>
    rw [hL] at h
    simp only at h
    split at h
    · cases h
    · cases h
      rename_i hn
      simp only [not_or] at hn
      exact ⟨List.mem_of_getElem? hL, by omega, hn.1, hn.2.1, rfl⟩
theorem rank_lt {L : List Ow} {c : Int} {o : Ow} (h : o ∈ L) (hc : c < o.hop) : rank L o.hop < rank L c := by
  unfold rank
  induction L with
  | nil => cases h
  | cons a t ih =>
    have mono : (t.filter fun x => decide (o.hop < x.hop)).length ≤ (t.filter fun x => decide (c < x.hop)).length := by
      clear ih h
      induction t with
      | nil => simp
      | cons b t ih =>
        simp only [List.filter_cons]
        by_cases h1 : o.hop < b.hop
        · rw [if_pos (by simpa using h1), if_pos (by simp; omega)]; simpa using ih
        · rw [if_neg (by simpa using h1)]
          split
          · simp; omega
          · exact ih
    rcases List.mem_cons.1 h with rfl | h
    · simp only [List.filter_cons]
      rw [if_neg (by simp), if_pos (by simpa using hc)]
      simp; omega
    · have := ih h
      simp only [List.filter_cons]
      by_cases h1 : o.hop < a.hop
      · rw [if_pos (by simpa using h1), if_pos (by simp; omega)]; simpa using this
      · rw [if_neg (by simpa using h1)]
        split
        · simp; omega
        · exact this
theorem rank_le (L : List Ow) (c : Int) : rank L c ≤ L.length := List.length_filter_le _ _
theorem wayF_eq (L : List Ow) (origin : Int) : ∀ (k k' : Nat) (me c : Int), rank L c ≤ k → rank L c ≤ k' → wayF L origin k me c = wayF L origin k' me c := by
  intro k
  induction k with
  | zero =>
    intro k' me c h h'
    cases k' with
    | zero => rfl
    | succ k' =>
      show [] = match goes L origin me c with | none => [] | some o => o :: wayF L origin k' o.node o.hop
      cases hg : goes L origin me c with
      | none => rfl
      | some o =>
        obtain ⟨h1, h2, -⟩ := goes_some hg
        have := rank_lt h1 h2
        omega
  | succ k ih =>
    intro k' me c h h'
    cases k' with
    | zero =>
      show (match goes L origin me c with | none => [] | some o => o :: wayF L origin k o.node o.hop) = []
      cases hg : goes L origin me c with
      | none => rfl
      | some o =>
        obtain ⟨h1, h2, -⟩ := goes_some hg
        have := rank_lt h1 h2
        omega
    | succ k' =>
      show (match goes L origin me c with | none => [] | some o => o :: wayF L origin k o.node o.hop) = match goes L origin me c with | none => [] | some o => o :: wayF L origin k' o.node o.hop
      cases hg : goes L origin me c with
      | none => rfl
      | some o =>
        obtain ⟨h1, h2, -⟩ := goes_some hg
        have := rank_lt h1 h2
        simp only
        rw [ih k' o.node o.hop (by omega) (by omega)]
/-- The way from a node on. -/
def way (L : List Ow) (origin me c : Int) : List Ow := wayF L origin L.length me c
theorem way_none {L : List Ow} {origin me c : Int} (h : goes L origin me c = none) : way L origin me c = [] := by
  unfold way
  cases L.length with
  | zero => rfl
  | succ k => simp only [wayF, h]
theorem way_some {L : List Ow} {origin me c : Int} {o : Ow} (h : goes L origin me c = some o) : way L origin me c = o :: way L origin o.node o.hop := by
  unfold way
  have h1 := rank_le L o.hop
  have h2 := rank_le L c
  rw [wayF_eq L origin L.length (L.length + 1) me c h2 (by omega)]
  simp only [wayF, h]
theorem way_length (L : List Ow) (origin : Int) : ∀ (k : Nat) (me c : Int), rank L c ≤ k → (way L origin me c).length ≤ rank L c := by
  intro k
  induction k with
  | zero =>
    intro me c h
    cases hg : goes L origin me c with
    | none => rw [way_none hg]; simp
    | some o =>
      obtain ⟨h1, h2, -⟩ := goes_some hg
      have := rank_lt h1 h2
      omega
  | succ k ih =>
    intro me c h
    cases hg : goes L origin me c with
    | none => rw [way_none hg]; simp
    | some o =>
      obtain ⟨h1, h2, -⟩ := goes_some hg
      have h3 := rank_lt h1 h2
      have h4 := ih o.node o.hop (by omega)
      rw [way_some hg, List.length_cons]
      omega
theorem way_le (L : List Ow) (origin me c : Int) : (way L origin me c).length ≤ L.length :=
  Nat.le_trans (way_length L origin _ me c (Nat.le_refl _)) (rank_le L c)
/-- How far a way has come: the node, what is carried, what is left. -/
inductive Came (L : List Ow) (origin : Int) (me0 c0 : Int) : List Ow → Int → Int → Prop
  | start : Came L origin me0 c0 [] me0 c0
  | step {pre : List Ow} {me c : Int} {o : Ow} : Came L origin me0 c0 pre me c → goes L origin me c = some o → Came L origin me0 c0 (pre ++ [o]) o.node o.hop
theorem Came.way {L : List Ow} {origin me0 c0 : Int} {pre : List Ow} {me c : Int} (h : Came L origin me0 c0 pre me c) : Go.Proofs.Ytoanpfbdhkgncaa.way L origin me0 c0 = pre ++ Go.Proofs.Ytoanpfbdhkgncaa.way L origin me c := by
  induction h with
  | start => rfl
  | step _ hg ih => rw [ih, way_some hg, List.append_assoc]; rfl
theorem Came.rise {L : List Ow} {origin me0 c0 : Int} {pre : List Ow} {me c : Int} (h : Came L origin me0 c0 pre me c) : c0 ≤ c ∧ c = (pre.getLast?.map (·.hop)).getD c0 ∧ me = (pre.getLast?.map (·.node)).getD me0 := by
  induction h with
  | start => simp
  | step _ hg ih =>
    obtain ⟨-, h2, -⟩ := goes_some hg
    refine ⟨by omega, ?_, ?_⟩ <;> simp
theorem Came.mem {L : List Ow} {origin me0 c0 : Int} {pre : List Ow} {me c : Int} (h : Came L origin me0 c0 pre me c) : ∀ o ∈ pre, o ∈ L := by
  induction h with
  | start => simp
  | step _ hg ih =>
    intro x hx
    rcases List.mem_append.1 hx with hx | hx
    · exact ih x hx
    · rw [List.mem_singleton.1 hx]; exact (goes_some hg).1
theorem Came.of_prefix {L : List Ow} {origin me0 c0 : Int} : ∀ (k : Nat) (pre : List Ow) (me c : Int) (q : List Ow), rank L c ≤ k → Came L origin me0 c0 pre me c → q <+: Go.Proofs.Ytoanpfbdhkgncaa.way L origin me c → ∃ me' c', Came L origin me0 c0 (pre ++ q) me' c' := by
  intro k
  induction k with
  | zero =>
    intro pre me c q hk h hq
    cases hg : goes L origin me c with
    | none => rw [way_none hg] at hq; rw [List.prefix_nil.1 hq, List.append_nil]; exact ⟨_, _, h⟩
    | some o =>
      obtain ⟨h1, h2, -⟩ := goes_some hg
      have := rank_lt h1 h2
      omega
  | succ k ih =>
    intro pre me c q hk h hq
    cases hg : goes L origin me c with
    | none => rw [way_none hg] at hq; rw [List.prefix_nil.1 hq, List.append_nil]; exact ⟨_, _, h⟩
    | some o =>
      obtain ⟨h1, h2, -⟩ := goes_some hg
      have := rank_lt h1 h2
      rw [way_some hg] at hq
      cases q with
      | nil => rw [List.append_nil]; exact ⟨_, _, h⟩
      | cons x q =>
        obtain ⟨rfl, hq⟩ := List.cons_prefix_cons.1 hq
        obtain ⟨me', c', hc⟩ := ih (pre ++ [x]) _ _ q (by omega) (h.step hg) hq
        exact ⟨me', c', by simpa using hc⟩
end Go.Proofs.Ytoanpfbdhkgncaa
