/- Finding a form in a list. -/
import Derived.Test.YtolbihoeheogkaaFmsF
namespace Go.Proofs.Ytolbihoeheogkaa
open Go.ChangeShapes Go.WideShapes Go.ChangeAt Go.RowKit
set_option linter.unusedVariables false
set_option maxHeartbeats 1000000
theorem stoodF : Try.prog.stoodInHeld 25 = false := by kernel_rfl
theorem guardF : Try.prog.eqGuardType Try.prog.depth 25 = false := by kernel_rfl
theorem fieldsF : Try.prog.underlying 25 = some (.struct (Try.prog.fieldsOf 25)) := by kernel_rfl
/-- Are two forms the same, number by number? -/
def eq6 (a b c x y z : Int) : Bool := a == x && (b == y && c == z)
theorem eqlF (a b c x y z : Int) (w : World) : (binOp .eql 25 (.agg #[.int .i64 a, .int .i64 b, .int .i64 c]) (.agg #[.int .i64 x, .int .i64 y, .int .i64 z])).run Try.prog w = .ok (.bool (eq6 a b c x y z)) w := by
  rw [run_eql_struct, run_equalIn_struct w 9999 25 _ _ fieldsF stoodF]
  simp [go_sem, Try.underlying25, Try.underlying2]
  by_cases h1 : a = x
  · by_cases h2 : b = y
    · by_cases h3 : c = z <;> simp [eq6, h1, h2, h3]
    · simp [eq6, h1, h2]
  · simp [eq6, h1]
theorem neqF (a b c x y z : Int) (w : World) : (binOp .neq 25 (.agg #[.int .i64 a, .int .i64 b, .int .i64 c]) (.agg #[.int .i64 x, .int .i64 y, .int .i64 z])).run Try.prog w = .ok (.bool (!eq6 a b c x y z)) w := by
  rw [run_neq_struct, run_equalIn_struct w 9999 25 _ _ fieldsF stoodF]
  simp [go_sem, Try.underlying25, Try.underlying2]
  by_cases h1 : a = x
  · by_cases h2 : b = y
    · by_cases h3 : c = z <;> simp [eq6, h1, h2, h3]
    · simp [eq6, h1, h2]
  · simp [eq6, h1]
def eqFm (f g : Fm) : Bool := eq6 f.a f.b f.c g.a g.b g.c
theorem eqFm_iff {f g : Fm} : eqFm f g = true ↔ f = g := by
  obtain ⟨a, b, c⟩ := f
  obtain ⟨x, y, z⟩ := g
  simp [eqFm, eq6]
/-- The place of a form in a list. -/
def fiF (f : Fm) : List Fm → Int → Int
  | [], _ => -1
  | x :: L, i => if eqFm x f = true then i else fiF f L (i + 1)
theorem fi_step {f : Fm} {L : List Fm} {i : Nat} (h : i < L.length) : fiF f (L.drop i) i = if eqFm L[i] f = true then (i : Int) else fiF f (L.drop (i + 1)) ((i + 1 : Nat) : Int) := by
  rw [List.drop_eq_getElem_cons h]
  rfl
theorem l11Find_any (v : Value) (L : List Fm) (B : Nat) (f : Fm) (w : World) (h : OwnF w B v L) (hl : L.length ≤ 1000000) :
    Calls Try.prog 60 #[v, .agg #[.int .i64 f.a, .int .i64 f.b, .int .i64 f.c]] w fun e w' => e = .returned (.int .i64 (fiF f L 0)) ∧ Below w.heap.size w w' := by
  rcases h.shape with ⟨rfl, ao, c1, rfl⟩ | ⟨hp, b, c1, rfl, _, hb, _⟩
  · go_enter Try.func60, Try.ntmps60
    go_wp2
    go_loopg [5] 1 (fun k u wr => u = .int .i64 0 ∧ Below w.heap.size w wr)
    case atStart => exact ⟨rfl, (by repeat' (first | (with_reducible exact Below.refl _ _) | (with_reducible assumption) | (with_reducible refine Below.setCell ?_ ?_ _) | (with_reducible refine Below.alloc ?_ ?_ _) | (with_reducible refine Below.drew ?_) | (with_reducible refine below_drewN ?_ _) | (with_reducible refine Below.trans ?_ (Below.mono (by with_reducible assumption) ?_)) | go_size | (simp at *; omega)))⟩
    case round =>
      obtain ⟨rfl, hbel⟩ := hrel
      go_wp2
      go_ret
      exact ⟨rfl, (by repeat' (first | (with_reducible exact Below.refl _ _) | (with_reducible assumption) | (with_reducible refine Below.setCell ?_ ?_ _) | (with_reducible refine Below.alloc ?_ ?_ _) | (with_reducible refine Below.drew ?_) | (with_reducible refine below_drewN ?_ _) | (with_reducible refine Below.trans ?_ (Below.mono (by with_reducible assumption) ?_)) | go_size | (simp at *; omega)))⟩
  · have H := Lib.hid h
    have HR : Hid (fiF f (L.drop 0) 0 = fiF f L 0) := Lib.hid rfl
    clear h
    generalize fiF f L 0 = R at *
    go_enter Try.func60, Try.ntmps60
    go_wp2
    go_loopg [5] L.length (fun k u wr => ∃ i : Nat, u = .int .i64 i ∧ i + k = L.length ∧ Hid (fiF f (L.drop i) i = R) ∧ heapAt wr w.heap.size = some (.cells #[.int .i64 f.a, .int .i64 f.b, .int .i64 f.c] 25 (0, 0)) ∧ Below w.heap.size w wr)
    case atStart => exact ⟨0, rfl, by omega, HR, (by simp (disch := (first | omega | (simp; done) | (simp; omega))) [*]), (by repeat' (first | (with_reducible exact Below.refl _ _) | (with_reducible assumption) | (with_reducible refine Below.setCell ?_ ?_ _) | (with_reducible refine Below.alloc ?_ ?_ _) | (with_reducible refine Below.drew ?_) | (with_reducible refine below_drewN ?_ _) | (with_reducible refine Below.trans ?_ (Below.mono (by with_reducible assumption) ?_)) | go_size | (simp at *; omega)))⟩
    case round =>
      obtain ⟨i, rfl, hi, HF, hx0, hbel⟩ := hrel
      obtain ⟨p0, p1, p2, p3, p4, p5, p6⟩ := blk3 hx0
      have hsz := hbel.size
      by_cases hlt : i < L.length
      · obtain ⟨x1, x2, x3⟩ := OwnF.cells (H.out.below hbel) i hlt
        have i0 : (0 : Int) ≤ (i : Int) := by omega
        have i1 : (i : Int) < (L.length : Int) := by omega
        have q1 := eqlF
        have q2 := guardF
        cases he : eq6 L[i].a L[i].b L[i].c f.a f.b f.c
        · have HS : Hid (fiF f (L.drop (i + 1)) ((i + 1 : Nat) : Int) = R) := Lib.hid (by rw [← HF.out, fi_step hlt, if_neg (by unfold eqFm; rw [he]; simp)])
          go_wp2
          go_quiet (fail)
          go_wp2
          go_roundg (gk - 1)
          case measure => omega
          case rel => exact ⟨i + 1, by go_num, by omega, HS, by simp [*], (by repeat' (first | (with_reducible exact Below.refl _ _) | (with_reducible assumption) | (with_reducible refine Below.setCell ?_ ?_ _) | (with_reducible refine Below.alloc ?_ ?_ _) | (with_reducible refine Below.drew ?_) | (with_reducible refine below_drewN ?_ _) | (with_reducible refine Below.trans ?_ (Below.mono (by with_reducible assumption) ?_)) | go_size | (simp at *; omega)))⟩
        · have HS : Hid ((i : Int) = R) := Lib.hid (by rw [← HF.out, fi_step hlt, if_pos (by unfold eqFm; exact he)])
          go_wp2
          go_quiet (fail)
          go_wp2
          go_ret
          exact ⟨ret_int HS.out, (by repeat' (first | (with_reducible exact Below.refl _ _) | (with_reducible assumption) | (with_reducible refine Below.setCell ?_ ?_ _) | (with_reducible refine Below.alloc ?_ ?_ _) | (with_reducible refine Below.drew ?_) | (with_reducible refine below_drewN ?_ _) | (with_reducible refine Below.trans ?_ (Below.mono (by with_reducible assumption) ?_)) | go_size | (simp at *; omega)))⟩
      · go_wp2
        go_ret
        have e : L.drop i = [] := List.drop_eq_nil_of_le (by omega)
        exact ⟨ret_int (by rw [← HF.out, e]; rfl), (by repeat' (first | (with_reducible exact Below.refl _ _) | (with_reducible assumption) | (with_reducible refine Below.setCell ?_ ?_ _) | (with_reducible refine Below.alloc ?_ ?_ _) | (with_reducible refine Below.drew ?_) | (with_reducible refine below_drewN ?_ _) | (with_reducible refine Below.trans ?_ (Below.mono (by with_reducible assumption) ?_)) | go_size | (simp at *; omega)))⟩
end Go.Proofs.Ytolbihoeheogkaa
