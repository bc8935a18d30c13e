/- Lists of pairs of numbers that a call itself has made. -/
import Derived.Test.YtdbbjmcfpfalhaaDoorOwnB
namespace Go.Proofs.YtdbbjmcfpfalhaaDoor
open Go.ChangeShapes Go.WideShapes Go.ChangeAt Go.RowKit
set_option linter.unusedVariables false
set_option maxHeartbeats 1000000
structure Pp where
  x : Int
  y : Int
def gP (f : Pp) : List Value := [.int .i64 f.x, .int .i64 f.y]
theorem gP_len (f : Pp) : (gP f).length = 2 := rfl
abbrev OwnP (w : World) (B : Nat) (v : Value) (L : List Pp) : Prop := Own w B 32 2 gP v L
theorem infoP : (Tryd.prog.info? 32).map (fun i => (i.zero, i.size, i.bytes)) = some (some (.agg #[.int .i64 0, .int .i64 0]), 2, 16) := by kernel_rfl
theorem OwnP.cells {w : World} {B b cap : Nat} {L : List Pp} (h : OwnP w B (.slice (some ⟨b, 0, none⟩) L.length cap) L) (i : Nat) (hi : i < L.length) :
    w.cell? ⟨b, i * 2, none⟩ = some (.int .i64 (L[i]).x) ∧ w.cell? ⟨b, i * 2 + 1, none⟩ = some (.int .i64 (L[i]).y) :=
  ⟨Own.cell gP_len h i 0 hi (by omega), Own.cell gP_len h i 1 hi (by omega)⟩
theorem two_cells (x y : Int) : ∀ u ∈ [Value.int .i64 x, Value.int .i64 y], u.oneCell' = true := by
  intro u hu
  simp at hu
  rcases hu with rfl | rfl <;> rfl
theorem appP {w' : World} {B : Nat} {v' : Value} {L : List Pp} {f : Pp} (h : w'.ownsRow B 32 2 v' (L.length + 1) (rowsOf gP L ++ [.int .i64 f.x, .int .i64 f.y])) : OwnP w' B v' (L ++ [f]) := Own.more (x := f) h
/-- The marks that the law lays on a list of pairs. -/
def mkP (k : Nat) (L : List Pp) : Nat → List Pp
  | 0 => L
  | i + 1 => (mkP k L i).set i ⟨k + 2 * i, k + 2 * i + 1⟩
theorem mkP_len (k : Nat) (L : List Pp) (i : Nat) : (mkP k L i).length = L.length := by
  induction i with
  | zero => rfl
  | succ i ih => unfold mkP; rw [List.length_set, ih]
theorem mkP_get (k : Nat) (L : List Pp) : ∀ (i j : Nat), j < i → i ≤ L.length → (mkP k L i)[j]? = some ⟨k + 2 * j, k + 2 * j + 1⟩ := by
  intro i
  induction i with
  | zero => intro j h; omega
  | succ i ih =>
    intro j h h2
    unfold mkP
    rcases Nat.lt_or_ge j i with h3 | h3
    · rw [List.getElem?_set_ne (by omega)]
      exact ih j h3 (by omega)
    · have : j = i := by omega
      subst this
      rw [List.getElem?_set_self (by rw [mkP_len]; omega)]
theorem rows_setP (L : List Pp) : ∀ (i : Nat) (x y : Int), i < L.length → ((rowsOf gP L).set (i * 2) (.int .i64 x)).set (i * 2 + 1) (.int .i64 y) = rowsOf gP (L.set i ⟨x, y⟩) := by
  induction L with
  | nil => intro i x y h; simp at h
  | cons f L ih =>
    intro i x y h
    have e : ∀ M : List Pp, ∀ f, rowsOf gP (f :: M) = .int .i64 f.x :: .int .i64 f.y :: rowsOf gP M := fun M f => by simp [rowsOf, gP]
    cases i with
    | zero => rw [List.set_cons_zero, e, e]; rfl
    | succ i =>
      rw [List.set_cons_succ, e, e, ← ih i x y (by simpa using h)]
      have e1 : (i + 1) * 2 = i * 2 + 1 + 1 := by omega
      rw [e1]
      rfl
theorem markP2 {w : World} {B b cap n : Nat} {L : List Pp} (h : OwnP w B (.slice (some ⟨b, 0, none⟩) n cap) L) (hn : L.length = n) {i : Nat} (hi : i < n) (x y : Int) :
    OwnP ((w.setCell ⟨b, i * 2, none⟩ (.int .i64 x)).setCell ⟨b, i * 2 + 1, none⟩ (.int .i64 y)) B (.slice (some ⟨b, 0, none⟩) n cap) (L.set i ⟨x, y⟩) ∧
    w.grownBy ((w.setCell ⟨b, i * 2, none⟩ (.int .i64 x)).setCell ⟨b, i * 2 + 1, none⟩ (.int .i64 y)) (some b) := by
  subst hn
  obtain ⟨h1, g1⟩ := World.ownsRow.stored h (i * 2) (.int .i64 x)
  obtain ⟨h2, g2⟩ := World.ownsRow.stored h1 (i * 2 + 1) (.int .i64 y)
  refine ⟨?_, gtr g1 g2⟩
  unfold OwnP Own
  rw [List.length_set, ← rows_setP L i x y hi]
  exact h2
theorem ownP_two {w : World} {B b cap n : Nat} {L : List Pp} (h : OwnP w B (.slice (some ⟨b, 0, none⟩) n cap) L) (hn : L.length = n) {i : Nat} (hi : i < n) :
    ∃ x y : Value, w.cell? ⟨b, i * 2, none⟩ = some x ∧ w.cell? ⟨b, i * 2 + 1, none⟩ = some y ∧ w.frozen? ⟨b, i * 2, none⟩ = false ∧ w.frozen? ⟨b, i * 2 + 1, none⟩ = false := by
  subst hn
  obtain ⟨h1, h2⟩ := OwnP.cells h i hi
  exact ⟨_, _, h1, h2, Own.free h _, Own.free h _⟩
theorem mkP_cells {w : World} {B b cap : Nat} {L : List Pp} (h : OwnP w B (.slice (some ⟨b, 0, none⟩) L.length cap) (mkP 1 L L.length)) {i : Nat} (hi : i < L.length) :
    w.cell? ⟨b, i * 2, none⟩ = some (.int .i64 (1 + 2 * (i : Int))) ∧ w.cell? ⟨b, i * 2 + 1, none⟩ = some (.int .i64 (1 + 2 * (i : Int) + 1)) := by
  have e := mkP_len 1 L L.length
  have q := mkP_get 1 L L.length i hi (Nat.le_refl _)
  generalize mkP 1 L L.length = M at *
  rw [← e] at h
  have him : i < M.length := by omega
  have c := OwnP.cells h i him
  rw [List.getElem?_eq_getElem him] at q
  have q2 := Option.some.inj q
  rw [q2] at c
  exact c
end Go.Proofs.YtdbbjmcfpfalhaaDoor
