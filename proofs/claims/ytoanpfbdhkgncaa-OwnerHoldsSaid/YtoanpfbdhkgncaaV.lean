/-
  PROVED: In plain terms: the way of a status ends at the node to which the token went last, if it does not come back to its origin. CONDITIONS: none besides.
-/
import Derived.Test.YtoanpfbdhkgncaaE
namespace Go.Proofs.Ytoanpfbdhkgncaa
/-- The token's way, one node more. -/
def wentStep (nodes : Int) (W : List Int) (v : Int) : List Int := if 0 ≤ v ∧ v < nodes ∧ v ≠ W.getD (W.length - 1) 0 then W ++ [v] else W
def wentOf (nodes : Int) (l : List Int) : List Int := l.foldl (wentStep nodes) [0]
theorem wentOf_snoc (nodes : Int) (l : List Int) (v : Int) : wentOf nodes (l ++ [v]) = wentStep nodes (wentOf nodes l) v := by simp [wentOf]
theorem went_facts (nodes : Int) (hn : 0 < nodes) : ∀ (k : Nat) (l : List Int), l.length = k → 1 ≤ (wentOf nodes l).length ∧ (wentOf nodes l).length ≤ k + 1 ∧ ∀ v ∈ wentOf nodes l, 0 ≤ v ∧ v < nodes := by
  intro k
  induction k with
  | zero =>
    intro l hl
    obtain rfl := List.length_eq_zero_iff.1 hl
    simp [wentOf, hn]
  | succ k ih =>
    intro l hl
    obtain ⟨t, v, rfl⟩ : ∃ t v, l = t ++ [v] := ⟨l.dropLast, l.getLast (by intro h; subst h; simp at hl), (List.dropLast_concat_getLast _).symm⟩
    obtain ⟨h1, h2, h3⟩ := ih t (by simp at hl; omega)
    rw [wentOf_snoc]
    unfold wentStep
    split
    · rename_i hv
      refine ⟨by simp, by simp; omega, fun x hx => ?_⟩
      rcases List.mem_append.1 hx with hx | hx
      · exact h3 x hx
      · rw [List.mem_singleton.1 hx]; exact ⟨hv.1, hv.2.1⟩
    · exact ⟨h1, by omega, h3⟩
def gz : Ow := ⟨0, 0⟩
/-- The guesses behind the first so many sends. -/
def laid (nodes : Nat) (W : List Int) : Nat → List Ow
  | 0 => List.replicate nodes gz
  | i + 1 => (laid nodes W i).set (W.getD i 0).toNat ⟨W.getD (i + 1) 0, ((i + 1 : Nat) : Int)⟩
/-- What a node knows besides. -/
def tell (W : List Int) (L : List Ow) (n : Nat) (k : Int) : List Ow :=
  if 0 ≤ k ∧ k < W.length ∧ (L.getD n gz).hop < k then L.set n ⟨W.getD k.toNat 0, k⟩ else L
def toldL (W : List Int) (told : List Int) (L : List Ow) : Nat → List Ow
  | 0 => L
  | n + 1 => tell W (toldL W told L n) n (told.getD n 0)
/-- Each guess is of the token's way. -/
def Good (nodes : Nat) (W : List Int) (L : List Ow) : Prop := L.length = nodes ∧ ∀ n, n < nodes → ∃ q : Nat, q < W.length ∧ L.getD n gz = ⟨W.getD q 0, (q : Int)⟩
/-- The first so many sends are known where they happened. -/
def Sent (W : List Int) (L : List Ow) (i : Nat) : Prop := ∀ j, j < i → ((j + 1 : Nat) : Int) ≤ (L.getD (W.getD j 0).toNat gz).hop
theorem getD_set (L : List Ow) (i j : Nat) (x : Ow) (hi : i < L.length) : (L.set i x).getD j gz = if i = j then x else L.getD j gz := by
  simp only [List.getD_eq_getElem?_getD, List.getElem?_set]
  by_cases h : i = j
  · simp [h, h ▸ hi]
  · simp [h]
theorem laid_facts (nodes : Nat) (W : List Int) (_ : 0 < nodes) (hW : 1 ≤ W.length) (h0 : W.getD 0 0 = 0) (hv : ∀ v ∈ W, 0 ≤ v ∧ v < nodes) : ∀ i, i + 1 ≤ W.length → Good nodes W (laid nodes W i) ∧ Sent W (laid nodes W i) i := by
  intro i
  induction i with
  | zero =>
    intro _
    refine ⟨⟨by simp [laid], fun n hn => ⟨0, by omega, ?_⟩⟩, fun j hj => by omega⟩
    rw [h0]
    simp [laid, List.getD_eq_getElem?_getD, hn, gz]
  | succ i ih =>
    intro hi
    obtain ⟨⟨h1, h2⟩, h3⟩ := ih (by omega)
    have hm : W.getD i 0 ∈ W := by rw [List.getD_eq_getElem?_getD, List.getElem?_eq_getElem (by omega)]; simp
    obtain ⟨hv1, hv2⟩ := hv _ hm
    have hlt : (W.getD i 0).toNat < (laid nodes W i).length := by rw [h1]; omega
    refine ⟨⟨by simp [laid, h1], fun n hn => ?_⟩, fun j hj => ?_⟩
    · show ∃ q : Nat, q < W.length ∧ ((laid nodes W i).set (W.getD i 0).toNat ⟨W.getD (i + 1) 0, ((i + 1 : Nat) : Int)⟩).getD n gz = _
      simp only [getD_set _ _ _ _ hlt]
      split
      · exact ⟨i + 1, by omega, rfl⟩
      · exact h2 n hn
    · show ((j + 1 : Nat) : Int) ≤ (((laid nodes W i).set (W.getD i 0).toNat ⟨W.getD (i + 1) 0, ((i + 1 : Nat) : Int)⟩).getD (W.getD j 0).toNat gz).hop
      simp only [getD_set _ _ _ _ hlt]
      split
      · simp only; omega
      · by_cases e : j = i
        · subst e; rename_i hne; exact absurd rfl hne
        · exact h3 j (by omega)
theorem tell_facts (nodes : Nat) (W : List Int) (L : List Ow) (n : Nat) (k : Int) (i : Nat) (hn : n < nodes) (h : Good nodes W L ∧ Sent W L i) : Good nodes W (tell W L n k) ∧ Sent W (tell W L n k) i := by
  unfold tell
  split
  · rename_i hk
    obtain ⟨hk0, hk1, hk2⟩ := hk
    obtain ⟨⟨h1, h2⟩, h3⟩ := h
    have hlt : n < L.length := by omega
    refine ⟨⟨by simp [h1], fun m hm => ?_⟩, fun j hj => ?_⟩
    · simp only [getD_set _ _ _ _ hlt]
      split
      · exact ⟨k.toNat, by omega, by simp; omega⟩
      · exact h2 m hm
    · simp only [getD_set _ _ _ _ hlt]
      split
      · rename_i e
        have := h3 j hj
        rw [← e] at this
        simp only
        omega
      · exact h3 j hj
  · exact h
theorem told_facts (nodes : Nat) (W told : List Int) (L : List Ow) (i : Nat) (h : Good nodes W L ∧ Sent W L i) : ∀ n, n ≤ nodes → Good nodes W (toldL W told L n) ∧ Sent W (toldL W told L n) i := by
  intro n
  induction n with
  | zero => intro _; exact h
  | succ n ih => intro hn; exact tell_facts nodes W _ n _ i (by omega) (ih (by omega))
theorem getD_of {L : List Ow} {n : Nat} (h : n < L.length) : L.getD n gz = L[n] := by simp [List.getD_eq_getElem?_getD, List.getElem?_eq_getElem h]
/-- Where a way ends. -/
theorem ends_last (nodes : Nat) (W : List Int) (L : List Ow) (origin : Int) (hW : 1 ≤ W.length) (hv : ∀ v ∈ W, 0 ≤ v ∧ v < nodes) (hg : Good nodes W L) (hs : Sent W L (W.length - 1)) (ho : 0 ≤ origin ∧ origin < nodes) :
    let at_ := ((way L origin origin 0).getLast?.map (·.node)).getD origin
    (0 ≤ at_ ∧ at_ < nodes) ∧ (at_ = W.getD (W.length - 1) 0 ∨ (L.getD at_.toNat gz).node = origin ∨ at_ = origin) := by
  intro at_
  obtain ⟨me, c, hc⟩ := Came.of_prefix (rank L 0) [] origin 0 (way L origin origin 0) (Nat.le_refl _) .start (List.prefix_refl _)
  rw [List.nil_append] at hc
  obtain ⟨_, hcc, hme⟩ := hc.rise
  have hat : at_ = me := hme.symm
  have hend : goes L origin me c = none := by
    have hw := hc.way
    have h1 : way L origin me c = [] := List.append_cancel_left (by rw [← hw, List.append_nil] : way L origin origin 0 ++ way L origin me c = way L origin origin 0 ++ [])
    cases h : goes L origin me c with
    | none => rfl
    | some o => rw [way_some h] at h1; cases h1
  rw [hat]
  by_cases hp : way L origin origin 0 = []
  · rw [hp] at hme
    simp at hme
    subst hme
    exact ⟨ho, .inr (.inr rfl)⟩
  · have hlast := List.getLast?_eq_some_getLast hp
    rw [hlast] at hcc hme
    simp only [Option.map_some, Option.getD_some] at hcc hme
    have hmem := hc.mem _ (List.getLast_mem hp)
    generalize (way L origin origin 0).getLast hp = o at *
    obtain ⟨i, hi, rfl⟩ := List.getElem_of_mem hmem
    obtain ⟨q, hq, he⟩ := hg.2 i (by rw [← hg.1]; exact hi)
    rw [getD_of hi] at he
    rw [he] at hcc hme
    simp only at hcc hme
    have hmW : W.getD q 0 ∈ W := by rw [List.getD_eq_getElem?_getD, List.getElem?_eq_getElem hq]; simp
    have hb := hv _ hmW
    rw [← hme] at hb
    refine ⟨hb, ?_⟩
    by_cases hl : me = W.getD (W.length - 1) 0
    · exact .inl hl
    · have hq1 : q < W.length - 1 := by
        by_cases e : q = W.length - 1
        · subst e; exact absurd hme hl
        · omega
      have hml : me.toNat < L.length := by rw [hg.1]; omega
      have h1 := hs q hq1
      rw [← hme] at h1
      unfold goes at hend
      rw [List.getElem?_eq_getElem hml] at hend
      simp only at hend
      rw [getD_of hml] at h1 ⊢
      split at hend
      · rename_i hx
        rcases hx with hx | hx | hx
        · obtain ⟨q2, hq2, he2⟩ := hg.2 me.toNat (by rw [← hg.1]; exact hml)
          rw [getD_of hml] at he2
          rw [he2] at h1 hx
          simp only at h1 hx
          by_cases e2 : q2 = W.length - 1
          · subst e2; exact absurd hx.symm hl
          · have h2 := hs q2 (by omega)
            rw [hx, getD_of hml, he2] at h2
            simp only at h2
            omega
        · exact .inr (.inl hx)
        · omega
      · cases hend
end Go.Proofs.Ytoanpfbdhkgncaa
