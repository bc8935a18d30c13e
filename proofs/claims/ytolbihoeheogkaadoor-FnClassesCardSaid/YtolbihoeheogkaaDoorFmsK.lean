/- Equivalent forms: both packages. -/
import Derived.Test.YtolbihoeheogkaaDoorFmsJ
namespace Go.Proofs.YtolbihoeheogkaaDoor
open Go.ChangeShapes Go.WideShapes Go.ChangeAt Go.RowKit
set_option linter.unusedVariables false
set_option maxHeartbeats 1000000
def dFm (f : Fm) : Int := dF f.a f.b f.c
theorem dFm_stp {f : Fm} (h : vFm f = true) : dFm (stp f) = dFm f := by
  obtain ⟨a1, b1, c1⟩ := vF_in h
  exact step_disc a1 b1 c1 (vF_c h)
theorem cyF_disc (f : Fm) (D : Int) : ∀ (k : Nat) (x : Fm) (L M : List Fm), cyF f k x L = some M → dFm x = D → (∀ z ∈ L, dFm z = D) → ∀ z ∈ M, dFm z = D := by
  intro k
  induction k with
  | zero => intro x L M h; simp [cyF] at h
  | succ k ih =>
    intro x L M h hx hL
    unfold cyF at h
    split at h
    · cases h; exact hL
    · split at h
      · rename_i hv
        refine ih _ _ _ h (by rw [dFm_stp hv]; exact hx) ?_
        intro z hz
        rcases List.mem_append.1 hz with h1 | h1
        · exact hL z h1
        · rw [List.mem_singleton.1 h1]; exact hx
      · cases h
theorem cyR_disc {f : Fm} {M : List Fm} (hv : vFm f = true) (h : cyR f = some M) : ∀ z ∈ M, dFm z = dFm f := by
  unfold cyR at h
  split at h
  · cases h; intro z hz; rw [List.mem_singleton.1 hz]
  · exact cyF_disc f _ _ _ _ _ h (dFm_stp hv) (fun z hz => by rw [List.mem_singleton.1 hz])
theorem cyF_head (f y : Fm) : ∀ (k : Nat) (x : Fm) (L M : List Fm), cyF f k x (y :: L) = some M → M[0]? = some y := by
  intro k
  induction k with
  | zero => intro x L M h; simp [cyF] at h
  | succ k ih =>
    intro x L M h
    unfold cyF at h
    split at h
    · cases h; rfl
    · split at h
      · exact ih _ _ _ h
      · cases h
theorem cyR_head {f : Fm} {M : List Fm} (h : cyR f = some M) : M[0]? = some f := by
  unfold cyR at h
  split at h
  · cases h; rfl
  · exact cyF_head f f _ _ _ _ h
theorem fi_no {f : Fm} : ∀ (L : List Fm) (i : Int), (∀ z ∈ L, z ≠ f) → fiF f L i = -1 := by
  intro L
  induction L with
  | nil => intro i _; rfl
  | cons x L ih =>
    intro i h
    unfold fiF
    rw [if_neg (fun e => h x (List.mem_cons_self) (eqFm_iff.1 e))]
    exact ih _ (fun z hz => h z (List.mem_cons_of_mem _ hz))
theorem fi_ge {f : Fm} : ∀ (L : List Fm) (i : Int), fiF f L i = -1 ∨ i ≤ fiF f L i := by
  intro L
  induction L with
  | nil => intro i; exact .inl rfl
  | cons x L ih =>
    intro i
    unfold fiF
    split
    · right; omega
    · have := ih (i + 1)
      omega
def eqvC (x : Fm) : Option (List Fm) → Option (List Fm) → Bool × Int
  | some _, some M => (decide (0 ≤ fiF x M 0), 0)
  | _, _ => (false, 5)
/-- Are two forms equivalent, and the code. -/
def eqvR (a b c x y z : Int) : Bool × Int :=
  if (vF a b c && vF x y z) = true then (if ((rdR a b c).2.2 && (rdR x y z).2.2) = true then eqvC (rdR a b c).1 (cyR (rdR a b c).1) (cyR (rdR x y z).1) else (false, 5)) else (false, 1)
theorem RetFO_is {w w' : World} {o : Option (List Fm)} {e : Ending} (h : RetFO w o e w') : ∃ v, e = .returned (.tuple #[v, .bool o.isSome]) ∧ (∀ L, o = some L → OwnF w' w.heap.size v L) ∧ Below w.heap.size w w' := by
  rcases h with ⟨L, v, rfl, rfl, h1, h2⟩ | ⟨rfl, rfl, h2⟩
  · exact ⟨v, rfl, (fun M hM => by cases hM; exact h1), h2⟩
  · exact ⟨_, rfl, (fun M hM => by cases hM), h2⟩
end Go.Proofs.YtolbihoeheogkaaDoor
