/- Lists of forms that a call itself has made. -/
import Derived.Test.YtodbmnbahldabaaDoorFormK
import Derived.Test.YtodbmnbahldabaaDoorOwn
namespace Go.Proofs.YtodbmnbahldabaaDoor
open Go.ChangeShapes Go.WideShapes Go.ChangeAt Go.RowKit
set_option linter.unusedVariables false
set_option maxHeartbeats 1000000
def gF (f : Fm) : List Value := [.int .i64 f.a, .int .i64 f.b, .int .i64 f.c]
theorem gF_len (f : Fm) : (gF f).length = 3 := rfl
abbrev OwnF (w : World) (B : Nat) (v : Value) (L : List Fm) : Prop := Own w B 25 3 gF v L
theorem infoF : (Tryd.prog.info? 25).map (fun i => (i.zero, i.size, i.bytes)) = some (some (.agg #[.int .i64 0, .int .i64 0, .int .i64 0]), 3, 24) := by kernel_rfl
theorem OwnF.cells {w : World} {B b cap : Nat} {L : List Fm} (h : OwnF w B (.slice (some ⟨b, 0, none⟩) L.length cap) L) (i : Nat) (hi : i < L.length) :
    w.cell? ⟨b, i * 3, none⟩ = some (.int .i64 (L[i]).a) ∧ w.cell? ⟨b, i * 3 + 1, none⟩ = some (.int .i64 (L[i]).b) ∧ w.cell? ⟨b, i * 3 + 2, none⟩ = some (.int .i64 (L[i]).c) :=
  ⟨Own.cell gF_len h i 0 hi (by omega), Own.cell gF_len h i 1 hi (by omega), Own.cell gF_len h i 2 hi (by omega)⟩
/-- The marks that the law lays on a list of forms. -/
def mkF (k : Nat) (L : List Fm) : Nat → List Fm
  | 0 => L
  | i + 1 => (mkF k L i).set i ⟨k + 3 * i, k + 3 * i + 1, k + 3 * i + 2⟩
theorem mkF_len (k : Nat) (L : List Fm) (i : Nat) : (mkF k L i).length = L.length := by
  induction i with
  | zero => rfl
  | succ i ih => unfold mkF; rw [List.length_set, ih]
theorem mkF_get (k : Nat) (L : List Fm) : ∀ (i j : Nat), j < i → i ≤ L.length → (mkF k L i)[j]? = some ⟨k + 3 * j, k + 3 * j + 1, k + 3 * j + 2⟩ := by
  intro i
  induction i with
  | zero => intro j h; omega
  | succ i ih =>
    intro j h h2
    unfold mkF
    rcases Nat.lt_or_ge j i with h3 | h3
    · rw [List.getElem?_set_ne (by omega)]
      exact ih j h3 (by omega)
    · have : j = i := by omega
      subst this
      rw [List.getElem?_set_self (by rw [mkF_len]; omega)]
theorem rows_set (L : List Fm) : ∀ (i : Nat) (x y z : Int), i < L.length → (((rowsOf gF L).set (i * 3) (.int .i64 x)).set (i * 3 + 1) (.int .i64 y)).set (i * 3 + 2) (.int .i64 z) = rowsOf gF (L.set i ⟨x, y, z⟩) := by
  induction L with
  | nil => intro i x y z h; simp at h
  | cons f L ih =>
    intro i x y z h
    have e : ∀ M : List Fm, ∀ f, rowsOf gF (f :: M) = .int .i64 f.a :: .int .i64 f.b :: .int .i64 f.c :: rowsOf gF M := fun M f => by simp [rowsOf, gF]
    cases i with
    | zero => rw [List.set_cons_zero, e, e]; rfl
    | succ i =>
      rw [List.set_cons_succ, e, e, ← ih i x y z (by simpa using h)]
      have e1 : (i + 1) * 3 = i * 3 + 1 + 1 + 1 := by omega
      rw [e1]
      rfl
theorem mark3 {w : World} {B b cap n : Nat} {L : List Fm} (h : OwnF w B (.slice (some ⟨b, 0, none⟩) n cap) L) (hn : L.length = n) {i : Nat} (hi : i < n) (x y z : Int) :
    OwnF (((w.setCell ⟨b, i * 3, none⟩ (.int .i64 x)).setCell ⟨b, i * 3 + 1, none⟩ (.int .i64 y)).setCell ⟨b, i * 3 + 2, none⟩ (.int .i64 z)) B (.slice (some ⟨b, 0, none⟩) n cap) (L.set i ⟨x, y, z⟩) ∧
    w.grownBy (((w.setCell ⟨b, i * 3, none⟩ (.int .i64 x)).setCell ⟨b, i * 3 + 1, none⟩ (.int .i64 y)).setCell ⟨b, i * 3 + 2, none⟩ (.int .i64 z)) (some b) := by
  subst hn
  obtain ⟨h1, g1⟩ := World.ownsRow.stored h (i * 3) (.int .i64 x)
  obtain ⟨h2, g2⟩ := World.ownsRow.stored h1 (i * 3 + 1) (.int .i64 y)
  obtain ⟨h3, g3⟩ := World.ownsRow.stored h2 (i * 3 + 2) (.int .i64 z)
  refine ⟨?_, ⟨by rw [g3.os, g2.os, g1.os], by rw [g3.tape, g2.tape, g1.tape], by rw [g3.output, g2.output, g1.output], Nat.le_trans g1.size (Nat.le_trans g2.size g3.size), fun k hk hne => ?_⟩⟩
  · unfold OwnF Own
    rw [List.length_set, ← rows_set L i x y z hi]
    exact h3
  · rw [g3.block k (Nat.lt_of_lt_of_le hk (Nat.le_trans g1.size g2.size)) hne, g2.block k (Nat.lt_of_lt_of_le hk g1.size) hne, g1.block k hk hne]
theorem grown_trans {a b c : World} {row : Option Nat} (h : a.grownBy b row) (k : b.grownBy c row) : a.grownBy c row :=
  ⟨k.os.trans h.os, k.tape.trans h.tape, k.output.trans h.output, Nat.le_trans h.size k.size, fun i hi hne => (k.block i (Nat.lt_of_lt_of_le hi h.size) hne).trans (h.block i hi hne)⟩
theorem own_three {w : World} {B b cap n : Nat} {L : List Fm} (h : OwnF w B (.slice (some ⟨b, 0, none⟩) n cap) L) (hn : L.length = n) {i : Nat} (hi : i < n) :
    ∃ x y z : Value, w.cell? ⟨b, i * 3, none⟩ = some x ∧ w.cell? ⟨b, i * 3 + 1, none⟩ = some y ∧ w.cell? ⟨b, i * 3 + 2, none⟩ = some z ∧
      w.frozen? ⟨b, i * 3, none⟩ = false ∧ w.frozen? ⟨b, i * 3 + 1, none⟩ = false ∧ w.frozen? ⟨b, i * 3 + 2, none⟩ = false := by
  subst hn
  obtain ⟨h1, h2, h3⟩ := OwnF.cells h i hi
  exact ⟨_, _, _, h1, h2, h3, Own.free h _, Own.free h _, Own.free h _⟩
end Go.Proofs.YtodbmnbahldabaaDoor
