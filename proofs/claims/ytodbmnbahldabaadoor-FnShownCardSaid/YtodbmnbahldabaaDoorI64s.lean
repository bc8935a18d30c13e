/- Lists of numbers that a call itself has made. -/
import Derived.Test.YtodbmnbahldabaaDoorOwnB
namespace Go.Proofs.YtodbmnbahldabaaDoor
open Go.ChangeShapes Go.WideShapes Go.ChangeAt Go.RowKit
set_option linter.unusedVariables false
set_option maxHeartbeats 1000000
def gI1 (n : Int) : List Value := [.int .i64 n]
theorem gI1_len (n : Int) : (gI1 n).length = 1 := rfl
abbrev OwnI (w : World) (B : Nat) (v : Value) (L : List Int) : Prop := Own w B 2 1 gI1 v L
theorem infoI : (Tryd.prog.info? 2).map (fun i => (i.zero, i.size, i.bytes)) = some (some (.int .i64 0), 1, 8) := by kernel_rfl
theorem OwnI.cells {w : World} {B b cap : Nat} {L : List Int} (h : OwnI w B (.slice (some ⟨b, 0, none⟩) L.length cap) L) (i : Nat) (hi : i < L.length) : w.cell? ⟨b, i, none⟩ = some (.int .i64 L[i]) := by
  have := Own.cell gI1_len h i 0 hi (by omega)
  simpa [gI1] using this
theorem one_cell (x : Int) : ∀ u ∈ [Value.int .i64 x], u.oneCell' = true := by
  intro u hu
  simp at hu
  subst hu
  rfl
theorem appI {w' : World} {B : Nat} {v' : Value} {L : List Int} {f : Int} (h : w'.ownsRow B 2 1 v' (L.length + 1) (rowsOf gI1 L ++ [.int .i64 f])) : OwnI w' B v' (L ++ [f]) := Own.more (x := f) h
/-- The marks that the law lays on a list of numbers. -/
def mkI (k : Nat) (L : List Int) : Nat → List Int
  | 0 => L
  | i + 1 => (mkI k L i).set i (k + i)
theorem mkI_len (k : Nat) (L : List Int) (i : Nat) : (mkI k L i).length = L.length := by
  induction i with
  | zero => rfl
  | succ i ih => unfold mkI; rw [List.length_set, ih]
theorem mkI_get (k : Nat) (L : List Int) : ∀ (i j : Nat), j < i → i ≤ L.length → (mkI k L i)[j]? = some ((k : Int) + j) := by
  intro i
  induction i with
  | zero => intro j h; omega
  | succ i ih =>
    intro j h h2
    unfold mkI
    rcases Nat.lt_or_ge j i with h3 | h3
    · rw [List.getElem?_set_ne (by omega)]
      exact ih j h3 (by omega)
    · have : j = i := by omega
      subst this
      rw [List.getElem?_set_self (by rw [mkI_len]; omega)]
theorem rows_setI (L : List Int) : ∀ (i : Nat) (x : Int), i < L.length → (rowsOf gI1 L).set i (.int .i64 x) = rowsOf gI1 (L.set i x) := by
  induction L with
  | nil => intro i x h; simp at h
  | cons f L ih =>
    intro i x h
    have e : ∀ M : List Int, ∀ f, rowsOf gI1 (f :: M) = .int .i64 f :: rowsOf gI1 M := fun M f => by simp [rowsOf, gI1]
    cases i with
    | zero => rw [List.set_cons_zero, e, e]; rfl
    | succ i => rw [List.set_cons_succ, e, e, ← ih i x (by simpa using h)]; rfl
theorem markI1 {w : World} {B b cap n : Nat} {L : List Int} (h : OwnI w B (.slice (some ⟨b, 0, none⟩) n cap) L) (hn : L.length = n) {i : Nat} (hi : i < n) (x : Int) :
    OwnI (w.setCell ⟨b, i, none⟩ (.int .i64 x)) B (.slice (some ⟨b, 0, none⟩) n cap) (L.set i x) ∧ w.grownBy (w.setCell ⟨b, i, none⟩ (.int .i64 x)) (some b) := by
  subst hn
  obtain ⟨h1, g1⟩ := World.ownsRow.stored h i (.int .i64 x)
  refine ⟨?_, g1⟩
  unfold OwnI Own
  rw [List.length_set, ← rows_setI L i x hi]
  exact h1
theorem ownI_one {w : World} {B b cap n : Nat} {L : List Int} (h : OwnI w B (.slice (some ⟨b, 0, none⟩) n cap) L) (hn : L.length = n) {i : Nat} (hi : i < n) :
    ∃ x : Value, w.cell? ⟨b, i, none⟩ = some x ∧ w.frozen? ⟨b, i, none⟩ = false := by
  subst hn
  exact ⟨_, OwnI.cells h i hi, Own.free h _⟩
theorem mkI_cells {w : World} {B b cap : Nat} {L : List Int} (h : OwnI w B (.slice (some ⟨b, 0, none⟩) L.length cap) (mkI 1 L L.length)) {i : Nat} (hi : i < L.length) :
    w.cell? ⟨b, i, none⟩ = some (.int .i64 (1 + (i : Int))) := by
  have e := mkI_len 1 L L.length
  have q := mkI_get 1 L L.length i hi (Nat.le_refl _)
  generalize mkI 1 L L.length = M at *
  rw [← e] at h
  have him : i < M.length := by omega
  have c := OwnI.cells h i him
  rw [List.getElem?_eq_getElem him] at q
  have q2 := Option.some.inj q
  rw [q2] at c
  exact c
end Go.Proofs.YtodbmnbahldabaaDoor
