/- The reference's search in a list of surds. -/
import Derived.Test.YtdbbjmcfpfalhaaDoorPellC
namespace Go.Proofs.YtdbbjmcfpfalhaaDoor
open Go.ChangeShapes Go.WideShapes Go.ChangeAt Go.RowKit
set_option linter.unusedVariables false
set_option maxHeartbeats 8000000
set_option maxRecDepth 20000
theorem stoodS : Tryd.prog.stoodInHeld 86 = false := by kernel_rfl
theorem guardS : Tryd.prog.eqGuardType Tryd.prog.depth 86 = false := by kernel_rfl
theorem fieldsS : Tryd.prog.underlying 86 = some (.struct (Tryd.prog.fieldsOf 86)) := by kernel_rfl
/-- Are two forms the same, number by number? -/
def eq6 (a b c x y z : Int) : Bool := a == x && (b == y && c == z)
theorem eqlS (a b c x y z : Int) (w : World) : (binOp .eql 86 (.agg #[.int .i64 a, .int .i64 b, .int .i64 c]) (.agg #[.int .i64 x, .int .i64 y, .int .i64 z])).run Tryd.prog w = .ok (.bool (eq6 a b c x y z)) w := by
  rw [run_eql_struct, run_equalIn_struct w 9999 86 _ _ fieldsS stoodS]
  simp [go_sem, Tryd.underlying86, Tryd.underlying2]
  by_cases h1 : a = x
  · by_cases h2 : b = y
    · by_cases h3 : c = z <;> simp [eq6, h1, h2, h3]
    · simp [eq6, h1, h2]
  · simp [eq6, h1]
theorem neqS (a b c x y z : Int) (w : World) : (binOp .neq 86 (.agg #[.int .i64 a, .int .i64 b, .int .i64 c]) (.agg #[.int .i64 x, .int .i64 y, .int .i64 z])).run Tryd.prog w = .ok (.bool (!eq6 a b c x y z)) w := by
  rw [run_neq_struct, run_equalIn_struct w 9999 86 _ _ fieldsS stoodS]
  simp [go_sem, Tryd.underlying86, Tryd.underlying2]
  by_cases h1 : a = x
  · by_cases h2 : b = y
    · by_cases h3 : c = z <;> simp [eq6, h1, h2, h3]
    · simp [eq6, h1, h2]
  · simp [eq6, h1]
def eqSd (d : Int) (f g : Nat × Nat) : Bool := eq6 f.1 d f.2 g.1 d g.2
theorem eqSd_iff {d : Int} {f g : Nat × Nat} : eqSd d f g = true ↔ f = g := by
  obtain ⟨a, c⟩ := f
  obtain ⟨x, z⟩ := g
  simp [eqSd, eq6]
  omega
/-- The place of a surd in a list. -/
def fiS (d : Int) (f : Nat × Nat) : List (Nat × Nat) → Int → Int
  | [], _ => -1
  | x :: L, i => if eqSd d x f = true then i else fiS d f L (i + 1)
theorem fiS_step {d : Int} {f : Nat × Nat} {L : List (Nat × Nat)} {i : Nat} (h : i < L.length) : fiS d f (L.drop i) i = if eqSd d L[i] f = true then (i : Int) else fiS d f (L.drop (i + 1)) ((i + 1 : Nat) : Int) := by
  rw [List.drop_eq_getElem_cons h]
  rfl
theorem fiS_no {d : Int} {f : Nat × Nat} : ∀ (L : List (Nat × Nat)) (i : Int), (∀ z ∈ L, z ≠ f) → fiS d f L i = -1 := by
  intro L
  induction L with
  | nil => intro i _; rfl
  | cons x L ih =>
    intro i h
    unfold fiS
    rw [if_neg (fun e => h x (List.mem_cons_self) (eqSd_iff.1 e))]
    exact ih _ (fun z hz => h z (List.mem_cons_of_mem _ hz))
theorem fiS_new {d : Int} {D r n : Nat} (H : PerI d D r n) {k : Nat} (hk : k ≤ n) : fiS d (sS D r k) (sL D r k) 0 = -1 := by
  apply fiS_no
  intro z hz
  simp only [sL, List.mem_map, List.mem_range] at hz
  obtain ⟨j, hj, rfl⟩ := hz
  exact H.per.apart j k hj hk
theorem fiS_back {d : Int} {D r n : Nat} (H : PerI d D r n) : fiS d (sS D r (n + 1)) (sL D r (n + 1)) 0 = 1 := by
  obtain ⟨m, rfl⟩ : ∃ m, n = m + 1 := ⟨n - 1, by have := H.per.n1; omega⟩
  have h0 : (sL D r (m + 1 + 1)) = sS D r 0 :: sS D r 1 :: (List.range m).map (fun j => sS D r (j + 1 + 1)) := by
    simp [sL, List.range_succ_eq_map, List.map_map]
  rw [h0, H.per.back]
  unfold fiS
  rw [if_neg (fun e => H.per.apart 0 1 (by omega) (by omega) (eqSd_iff.1 e))]
  unfold fiS
  rw [if_pos (eqSd_iff.2 rfl)]
  rfl
theorem l08Find_any (d : Int) (v : Value) (L : List (Nat × Nat)) (B : Nat) (f : Nat × Nat) (w : World) (h : OwnS d w B v L) (hl : L.length ≤ 1000000) :
    Calls Tryd.prog 77 #[v, .agg #[.int .i64 ((f.1 : Nat)), .int .i64 d, .int .i64 ((f.2 : Nat))]] w fun e w' => e = .returned (.int .i64 (fiS d f L 0)) ∧ Below w.heap.size w w' := by
  rcases h.shape with ⟨rfl, ao, c1, rfl⟩ | ⟨hp, b, c1, rfl, _, hb, _⟩
  · go_enter Tryd.func77, Tryd.ntmps77
    go_wp2
    go_loopg [5] 1 (fun k u wr => u = .int .i64 0 ∧ Below w.heap.size w wr)
    case atStart => exact ⟨rfl, (by repeat' (first | (with_reducible exact Below.refl _ _) | (with_reducible assumption) | (with_reducible refine Below.setCell ?_ ?_ _) | (with_reducible refine Below.alloc ?_ ?_ _) | (with_reducible refine Below.drew ?_) | (with_reducible refine below_drewN ?_ _) | (with_reducible refine Below.trans ?_ (Below.mono (by with_reducible assumption) ?_)) | go_size | (simp at *; omega)))⟩
    case round =>
      obtain ⟨rfl, hbel⟩ := hrel
      go_wp2
      go_ret
      exact ⟨rfl, (by repeat' (first | (with_reducible exact Below.refl _ _) | (with_reducible assumption) | (with_reducible refine Below.setCell ?_ ?_ _) | (with_reducible refine Below.alloc ?_ ?_ _) | (with_reducible refine Below.drew ?_) | (with_reducible refine below_drewN ?_ _) | (with_reducible refine Below.trans ?_ (Below.mono (by with_reducible assumption) ?_)) | go_size | (simp at *; omega)))⟩
  · have H := Lib.hid h
    have HR : Hid (fiS d f (L.drop 0) 0 = fiS d f L 0) := Lib.hid rfl
    clear h
    generalize fiS d f L 0 = R at *
    go_enter Tryd.func77, Tryd.ntmps77
    go_wp2
    go_loopg [5] L.length (fun k u wr => ∃ i : Nat, u = .int .i64 i ∧ i + k = L.length ∧ Hid (fiS d f (L.drop i) i = R) ∧ heapAt wr w.heap.size = some (.cells #[.int .i64 (f.1 : Nat), .int .i64 d, .int .i64 (f.2 : Nat)] 86 (0, 0)) ∧ Below w.heap.size w wr)
    case atStart => exact ⟨0, rfl, by omega, HR, (by simp (disch := (first | omega | (simp; done) | (simp; omega))) [*]), (by repeat' (first | (with_reducible exact Below.refl _ _) | (with_reducible assumption) | (with_reducible refine Below.setCell ?_ ?_ _) | (with_reducible refine Below.alloc ?_ ?_ _) | (with_reducible refine Below.drew ?_) | (with_reducible refine below_drewN ?_ _) | (with_reducible refine Below.trans ?_ (Below.mono (by with_reducible assumption) ?_)) | go_size | (simp at *; omega)))⟩
    case round =>
      obtain ⟨i, rfl, hi, HF, hx0, hbel⟩ := hrel
      obtain ⟨p0, p1, p2, p3, p4, p5, p6⟩ := blk3 hx0
      have hsz := hbel.size
      by_cases hlt : i < L.length
      · obtain ⟨x1, x2, x3⟩ := OwnS.cells (H.out.below hbel) i hlt
        have i0 : (0 : Int) ≤ (i : Int) := by omega
        have i1 : (i : Int) < (L.length : Int) := by omega
        have q1 := eqlS
        have q2 := guardS
        cases he : eq6 (L[i].1 : Int) d (L[i].2 : Int) (f.1 : Int) d (f.2 : Int)
        · have HS : Hid (fiS d f (L.drop (i + 1)) ((i + 1 : Nat) : Int) = R) := Lib.hid (by rw [← HF.out, fiS_step hlt, if_neg (by unfold eqSd; rw [he]; simp)])
          go_wp2
          go_quiet (fail)
          go_wp2
          go_roundg (gk - 1)
          case measure => omega
          case rel => exact ⟨i + 1, by go_num, by omega, HS, by simp [*], (by repeat' (first | (with_reducible exact Below.refl _ _) | (with_reducible assumption) | (with_reducible refine Below.setCell ?_ ?_ _) | (with_reducible refine Below.alloc ?_ ?_ _) | (with_reducible refine Below.drew ?_) | (with_reducible refine below_drewN ?_ _) | (with_reducible refine Below.trans ?_ (Below.mono (by with_reducible assumption) ?_)) | go_size | (simp at *; omega)))⟩
        · have HS : Hid ((i : Int) = R) := Lib.hid (by rw [← HF.out, fiS_step hlt, if_pos (by unfold eqSd; exact he)])
          go_wp2
          go_quiet (fail)
          go_wp2
          go_ret
          exact ⟨ret_int HS.out, (by repeat' (first | (with_reducible exact Below.refl _ _) | (with_reducible assumption) | (with_reducible refine Below.setCell ?_ ?_ _) | (with_reducible refine Below.alloc ?_ ?_ _) | (with_reducible refine Below.drew ?_) | (with_reducible refine below_drewN ?_ _) | (with_reducible refine Below.trans ?_ (Below.mono (by with_reducible assumption) ?_)) | go_size | (simp at *; omega)))⟩
      · go_wp2
        go_ret
        have e : L.drop i = [] := List.drop_eq_nil_of_le (by omega)
        exact ⟨ret_int (by rw [← HF.out, e]; rfl), (by repeat' (first | (with_reducible exact Below.refl _ _) | (with_reducible assumption) | (with_reducible refine Below.setCell ?_ ?_ _) | (with_reducible refine Below.alloc ?_ ?_ _) | (with_reducible refine Below.drew ?_) | (with_reducible refine below_drewN ?_ _) | (with_reducible refine Below.trans ?_ (Below.mono (by with_reducible assumption) ?_)) | go_size | (simp at *; omega)))⟩
end Go.Proofs.YtdbbjmcfpfalhaaDoor
