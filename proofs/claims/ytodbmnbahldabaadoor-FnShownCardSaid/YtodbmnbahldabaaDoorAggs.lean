/- Structs of int64 fields, by value: opened to their numbers, and shut again. -/
import Derived.Test.YtodbmnbahldabaaDoorBase
namespace Go.Proofs.YtodbmnbahldabaaDoor
open Go.ChangeShapes Go.WideShapes Go.ChangeAt Go.RowKit Go.Joins Go.Deep
section
variable {H : Type} {enc : TypeId × Value → H} {P : Program} {w : World} {base : Nat} {spare : Nat → Bool} {held : Bool}

theorem arr2 {α : Type} {cs : Array α} (h : cs.size = 2) : ∃ c0 c1, cs = #[c0, c1] := by
  obtain ⟨l⟩ := cs
  match l, h with
  | [c0, c1], _ => exact ⟨c0, c1, rfl⟩
theorem open_i2 (ti : TypeId) {r : Reach} {b0 : Nat} {t : TypeId} {f0 f1 : Field} {v : Value} {d : DataW H} {p : List MemPlace} (hs : P.underlying t = some (.struct #[f0, f1])) (hone : oneCellFields P #[f0, f1] = true) (hC : P.cellsOf t = 2)
    (hI : P.underlying ti = some (.int .i64)) (t0 : f0.type = ti) (t1 : f1.type = ti)
    (hv : Value.okWide P w r b0 t v) (h : DataW.Trod enc P w base spare held t v d p) :
    ∃ n0 n1 : Int, v = .agg #[.int .i64 n0, .int .i64 n1] ∧ d = .agg [.lit (.int .i64 n0), .lit (.int .i64 n1)] ∧ p = [] ∧ (Lit.int .i64 n0).wf = true ∧ (Lit.int .i64 n1).wf = true := by
  obtain ⟨cs, rfl, hsz⟩ := okWide_struct hs hv
  obtain ⟨c0, c1, rfl⟩ := arr2 (hsz.trans hC)
  obtain ⟨fuel, hf⟩ := h
  obtain ⟨xs, n, _, hx, _, hlen, hg⟩ := DataW.trod_struct hs hf
  obtain ⟨o0, k0⟩ := hone_of hone 0 f0 rfl
  obtain ⟨o1, k1⟩ := hone_of hone 1 f1 rfl
  match xs, hlen with
  | [y0, y1], _ =>
    simp only [Prod.mk.injEq] at hx
    obtain ⟨n0, e0, z0, w0⟩ := DataW.trod_int (by rw [t0]; exact hI) (by simpa [Value.cells, o0, k0] using hg 0 f0 rfl : DataW.trod enc P w base spare held n f0.type [c0] = some y0)
    obtain ⟨n1, e1, z1, w1⟩ := DataW.trod_int (by rw [t1]; exact hI) (by simpa [Value.cells, o1, k1] using hg 1 f1 rfl : DataW.trod enc P w base spare held n f1.type [c1] = some y1)
    simp only [List.cons.injEq, and_true] at e0 e1
    subst e0 e1
    subst z0 z1
    exact ⟨n0, n1, rfl, by simpa using hx.1, by simpa using hx.2, w0, w1⟩
theorem shut_i2 (ti : TypeId) {t : TypeId} {f0 f1 : Field} {n0 n1 : Int} (hs : P.underlying t = some (.struct #[f0, f1])) (hone : oneCellFields P #[f0, f1] = true) (hC : P.cellsOf t = 2)
    (hI : P.underlying ti = some (.int .i64)) (t0 : f0.type = ti) (t1 : f1.type = ti)
    (w0 : (Lit.int .i64 n0).wf = true) (w1 : (Lit.int .i64 n1).wf = true) :
    DataW.Trod enc P w base spare held t (.agg #[.int .i64 n0, .int .i64 n1]) (.agg [.lit (.int .i64 n0), .lit (.int .i64 n1)]) [] := by
  obtain ⟨o0, k0⟩ := hone_of hone 0 f0 rfl
  obtain ⟨o1, k1⟩ := hone_of hone 1 f1 rfl
  have h0 : DataW.trod enc P w base spare held 1 f0.type [.int .i64 n0] = some (.lit (.int .i64 n0), []) := trod_int_mk 0 (by rw [t0]; exact hI) w0
  have h1 : DataW.trod enc P w base spare held 1 f1.type [.int .i64 n1] = some (.lit (.int .i64 n1), []) := trod_int_mk 0 (by rw [t1]; exact hI) w1
  have ts := trod_struct_mk (enc := enc) (w := w) (base := base) (spare := spare) (held := held) (n := 1) (cs := [.int .i64 n0, .int .i64 n1]) (xs := [(.lit (.int .i64 n0), []), (.lit (.int .i64 n1), [])]) hs (by simp [hC]) (by simp [o0, o1, k0, k1, h0, h1])
  exact ⟨2, by simpa [Value.cells] using ts⟩
theorem arr3 {α : Type} {cs : Array α} (h : cs.size = 3) : ∃ c0 c1 c2, cs = #[c0, c1, c2] := by
  obtain ⟨l⟩ := cs
  match l, h with
  | [c0, c1, c2], _ => exact ⟨c0, c1, c2, rfl⟩
theorem open_i3 (ti : TypeId) {r : Reach} {b0 : Nat} {t : TypeId} {f0 f1 f2 : Field} {v : Value} {d : DataW H} {p : List MemPlace} (hs : P.underlying t = some (.struct #[f0, f1, f2])) (hone : oneCellFields P #[f0, f1, f2] = true) (hC : P.cellsOf t = 3)
    (hI : P.underlying ti = some (.int .i64)) (t0 : f0.type = ti) (t1 : f1.type = ti) (t2 : f2.type = ti)
    (hv : Value.okWide P w r b0 t v) (h : DataW.Trod enc P w base spare held t v d p) :
    ∃ n0 n1 n2 : Int, v = .agg #[.int .i64 n0, .int .i64 n1, .int .i64 n2] ∧ d = .agg [.lit (.int .i64 n0), .lit (.int .i64 n1), .lit (.int .i64 n2)] ∧ p = [] ∧ (Lit.int .i64 n0).wf = true ∧ (Lit.int .i64 n1).wf = true ∧ (Lit.int .i64 n2).wf = true := by
  obtain ⟨cs, rfl, hsz⟩ := okWide_struct hs hv
  obtain ⟨c0, c1, c2, rfl⟩ := arr3 (hsz.trans hC)
  obtain ⟨fuel, hf⟩ := h
  obtain ⟨xs, n, _, hx, _, hlen, hg⟩ := DataW.trod_struct hs hf
  obtain ⟨o0, k0⟩ := hone_of hone 0 f0 rfl
  obtain ⟨o1, k1⟩ := hone_of hone 1 f1 rfl
  obtain ⟨o2, k2⟩ := hone_of hone 2 f2 rfl
  match xs, hlen with
  | [y0, y1, y2], _ =>
    simp only [Prod.mk.injEq] at hx
    obtain ⟨n0, e0, z0, w0⟩ := DataW.trod_int (by rw [t0]; exact hI) (by simpa [Value.cells, o0, k0] using hg 0 f0 rfl : DataW.trod enc P w base spare held n f0.type [c0] = some y0)
    obtain ⟨n1, e1, z1, w1⟩ := DataW.trod_int (by rw [t1]; exact hI) (by simpa [Value.cells, o1, k1] using hg 1 f1 rfl : DataW.trod enc P w base spare held n f1.type [c1] = some y1)
    obtain ⟨n2, e2, z2, w2⟩ := DataW.trod_int (by rw [t2]; exact hI) (by simpa [Value.cells, o2, k2] using hg 2 f2 rfl : DataW.trod enc P w base spare held n f2.type [c2] = some y2)
    simp only [List.cons.injEq, and_true] at e0 e1 e2
    subst e0 e1 e2
    subst z0 z1 z2
    exact ⟨n0, n1, n2, rfl, by simpa using hx.1, by simpa using hx.2, w0, w1, w2⟩
theorem shut_i3 (ti : TypeId) {t : TypeId} {f0 f1 f2 : Field} {n0 n1 n2 : Int} (hs : P.underlying t = some (.struct #[f0, f1, f2])) (hone : oneCellFields P #[f0, f1, f2] = true) (hC : P.cellsOf t = 3)
    (hI : P.underlying ti = some (.int .i64)) (t0 : f0.type = ti) (t1 : f1.type = ti) (t2 : f2.type = ti)
    (w0 : (Lit.int .i64 n0).wf = true) (w1 : (Lit.int .i64 n1).wf = true) (w2 : (Lit.int .i64 n2).wf = true) :
    DataW.Trod enc P w base spare held t (.agg #[.int .i64 n0, .int .i64 n1, .int .i64 n2]) (.agg [.lit (.int .i64 n0), .lit (.int .i64 n1), .lit (.int .i64 n2)]) [] := by
  obtain ⟨o0, k0⟩ := hone_of hone 0 f0 rfl
  obtain ⟨o1, k1⟩ := hone_of hone 1 f1 rfl
  obtain ⟨o2, k2⟩ := hone_of hone 2 f2 rfl
  have h0 : DataW.trod enc P w base spare held 1 f0.type [.int .i64 n0] = some (.lit (.int .i64 n0), []) := trod_int_mk 0 (by rw [t0]; exact hI) w0
  have h1 : DataW.trod enc P w base spare held 1 f1.type [.int .i64 n1] = some (.lit (.int .i64 n1), []) := trod_int_mk 0 (by rw [t1]; exact hI) w1
  have h2 : DataW.trod enc P w base spare held 1 f2.type [.int .i64 n2] = some (.lit (.int .i64 n2), []) := trod_int_mk 0 (by rw [t2]; exact hI) w2
  have ts := trod_struct_mk (enc := enc) (w := w) (base := base) (spare := spare) (held := held) (n := 1) (cs := [.int .i64 n0, .int .i64 n1, .int .i64 n2]) (xs := [(.lit (.int .i64 n0), []), (.lit (.int .i64 n1), []), (.lit (.int .i64 n2), [])]) hs (by simp [hC]) (by simp [o0, o1, o2, k0, k1, k2, h0, h1, h2])
  exact ⟨2, by simpa [Value.cells] using ts⟩
theorem arr4 {α : Type} {cs : Array α} (h : cs.size = 4) : ∃ c0 c1 c2 c3, cs = #[c0, c1, c2, c3] := by
  obtain ⟨l⟩ := cs
  match l, h with
  | [c0, c1, c2, c3], _ => exact ⟨c0, c1, c2, c3, rfl⟩
theorem open_i4 (ti : TypeId) {r : Reach} {b0 : Nat} {t : TypeId} {f0 f1 f2 f3 : Field} {v : Value} {d : DataW H} {p : List MemPlace} (hs : P.underlying t = some (.struct #[f0, f1, f2, f3])) (hone : oneCellFields P #[f0, f1, f2, f3] = true) (hC : P.cellsOf t = 4)
    (hI : P.underlying ti = some (.int .i64)) (t0 : f0.type = ti) (t1 : f1.type = ti) (t2 : f2.type = ti) (t3 : f3.type = ti)
    (hv : Value.okWide P w r b0 t v) (h : DataW.Trod enc P w base spare held t v d p) :
    ∃ n0 n1 n2 n3 : Int, v = .agg #[.int .i64 n0, .int .i64 n1, .int .i64 n2, .int .i64 n3] ∧ d = .agg [.lit (.int .i64 n0), .lit (.int .i64 n1), .lit (.int .i64 n2), .lit (.int .i64 n3)] ∧ p = [] ∧ (Lit.int .i64 n0).wf = true ∧ (Lit.int .i64 n1).wf = true ∧ (Lit.int .i64 n2).wf = true ∧ (Lit.int .i64 n3).wf = true := by
  obtain ⟨cs, rfl, hsz⟩ := okWide_struct hs hv
  obtain ⟨c0, c1, c2, c3, rfl⟩ := arr4 (hsz.trans hC)
  obtain ⟨fuel, hf⟩ := h
  obtain ⟨xs, n, _, hx, _, hlen, hg⟩ := DataW.trod_struct hs hf
  obtain ⟨o0, k0⟩ := hone_of hone 0 f0 rfl
  obtain ⟨o1, k1⟩ := hone_of hone 1 f1 rfl
  obtain ⟨o2, k2⟩ := hone_of hone 2 f2 rfl
  obtain ⟨o3, k3⟩ := hone_of hone 3 f3 rfl
  match xs, hlen with
  | [y0, y1, y2, y3], _ =>
    simp only [Prod.mk.injEq] at hx
    obtain ⟨n0, e0, z0, w0⟩ := DataW.trod_int (by rw [t0]; exact hI) (by simpa [Value.cells, o0, k0] using hg 0 f0 rfl : DataW.trod enc P w base spare held n f0.type [c0] = some y0)
    obtain ⟨n1, e1, z1, w1⟩ := DataW.trod_int (by rw [t1]; exact hI) (by simpa [Value.cells, o1, k1] using hg 1 f1 rfl : DataW.trod enc P w base spare held n f1.type [c1] = some y1)
    obtain ⟨n2, e2, z2, w2⟩ := DataW.trod_int (by rw [t2]; exact hI) (by simpa [Value.cells, o2, k2] using hg 2 f2 rfl : DataW.trod enc P w base spare held n f2.type [c2] = some y2)
    obtain ⟨n3, e3, z3, w3⟩ := DataW.trod_int (by rw [t3]; exact hI) (by simpa [Value.cells, o3, k3] using hg 3 f3 rfl : DataW.trod enc P w base spare held n f3.type [c3] = some y3)
    simp only [List.cons.injEq, and_true] at e0 e1 e2 e3
    subst e0 e1 e2 e3
    subst z0 z1 z2 z3
    exact ⟨n0, n1, n2, n3, rfl, by simpa using hx.1, by simpa using hx.2, w0, w1, w2, w3⟩
theorem shut_i4 (ti : TypeId) {t : TypeId} {f0 f1 f2 f3 : Field} {n0 n1 n2 n3 : Int} (hs : P.underlying t = some (.struct #[f0, f1, f2, f3])) (hone : oneCellFields P #[f0, f1, f2, f3] = true) (hC : P.cellsOf t = 4)
    (hI : P.underlying ti = some (.int .i64)) (t0 : f0.type = ti) (t1 : f1.type = ti) (t2 : f2.type = ti) (t3 : f3.type = ti)
    (w0 : (Lit.int .i64 n0).wf = true) (w1 : (Lit.int .i64 n1).wf = true) (w2 : (Lit.int .i64 n2).wf = true) (w3 : (Lit.int .i64 n3).wf = true) :
    DataW.Trod enc P w base spare held t (.agg #[.int .i64 n0, .int .i64 n1, .int .i64 n2, .int .i64 n3]) (.agg [.lit (.int .i64 n0), .lit (.int .i64 n1), .lit (.int .i64 n2), .lit (.int .i64 n3)]) [] := by
  obtain ⟨o0, k0⟩ := hone_of hone 0 f0 rfl
  obtain ⟨o1, k1⟩ := hone_of hone 1 f1 rfl
  obtain ⟨o2, k2⟩ := hone_of hone 2 f2 rfl
  obtain ⟨o3, k3⟩ := hone_of hone 3 f3 rfl
  have h0 : DataW.trod enc P w base spare held 1 f0.type [.int .i64 n0] = some (.lit (.int .i64 n0), []) := trod_int_mk 0 (by rw [t0]; exact hI) w0
  have h1 : DataW.trod enc P w base spare held 1 f1.type [.int .i64 n1] = some (.lit (.int .i64 n1), []) := trod_int_mk 0 (by rw [t1]; exact hI) w1
  have h2 : DataW.trod enc P w base spare held 1 f2.type [.int .i64 n2] = some (.lit (.int .i64 n2), []) := trod_int_mk 0 (by rw [t2]; exact hI) w2
  have h3 : DataW.trod enc P w base spare held 1 f3.type [.int .i64 n3] = some (.lit (.int .i64 n3), []) := trod_int_mk 0 (by rw [t3]; exact hI) w3
  have ts := trod_struct_mk (enc := enc) (w := w) (base := base) (spare := spare) (held := held) (n := 1) (cs := [.int .i64 n0, .int .i64 n1, .int .i64 n2, .int .i64 n3]) (xs := [(.lit (.int .i64 n0), []), (.lit (.int .i64 n1), []), (.lit (.int .i64 n2), []), (.lit (.int .i64 n3), [])]) hs (by simp [hC]) (by simp [o0, o1, o2, o3, k0, k1, k2, k3, h0, h1, h2, h3])
  exact ⟨2, by simpa [Value.cells] using ts⟩
theorem arr8 {α : Type} {cs : Array α} (h : cs.size = 8) : ∃ c0 c1 c2 c3 c4 c5 c6 c7, cs = #[c0, c1, c2, c3, c4, c5, c6, c7] := by
  obtain ⟨l⟩ := cs
  match l, h with
  | [c0, c1, c2, c3, c4, c5, c6, c7], _ => exact ⟨c0, c1, c2, c3, c4, c5, c6, c7, rfl⟩
theorem open_i8 (ti : TypeId) {r : Reach} {b0 : Nat} {t : TypeId} {f0 f1 f2 f3 f4 f5 f6 f7 : Field} {v : Value} {d : DataW H} {p : List MemPlace} (hs : P.underlying t = some (.struct #[f0, f1, f2, f3, f4, f5, f6, f7])) (hone : oneCellFields P #[f0, f1, f2, f3, f4, f5, f6, f7] = true) (hC : P.cellsOf t = 8)
    (hI : P.underlying ti = some (.int .i64)) (t0 : f0.type = ti) (t1 : f1.type = ti) (t2 : f2.type = ti) (t3 : f3.type = ti) (t4 : f4.type = ti) (t5 : f5.type = ti) (t6 : f6.type = ti) (t7 : f7.type = ti)
    (hv : Value.okWide P w r b0 t v) (h : DataW.Trod enc P w base spare held t v d p) :
    ∃ n0 n1 n2 n3 n4 n5 n6 n7 : Int, v = .agg #[.int .i64 n0, .int .i64 n1, .int .i64 n2, .int .i64 n3, .int .i64 n4, .int .i64 n5, .int .i64 n6, .int .i64 n7] ∧ d = .agg [.lit (.int .i64 n0), .lit (.int .i64 n1), .lit (.int .i64 n2), .lit (.int .i64 n3), .lit (.int .i64 n4), .lit (.int .i64 n5), .lit (.int .i64 n6), .lit (.int .i64 n7)] ∧ p = [] ∧ (Lit.int .i64 n0).wf = true ∧ (Lit.int .i64 n1).wf = true ∧ (Lit.int .i64 n2).wf = true ∧ (Lit.int .i64 n3).wf = true ∧ (Lit.int .i64 n4).wf = true ∧ (Lit.int .i64 n5).wf = true ∧ (Lit.int .i64 n6).wf = true ∧ (Lit.int .i64 n7).wf = true := by
  obtain ⟨cs, rfl, hsz⟩ := okWide_struct hs hv
  obtain ⟨c0, c1, c2, c3, c4, c5, c6, c7, rfl⟩ := arr8 (hsz.trans hC)
  obtain ⟨fuel, hf⟩ := h
  obtain ⟨xs, n, _, hx, _, hlen, hg⟩ := DataW.trod_struct hs hf
  obtain ⟨o0, k0⟩ := hone_of hone 0 f0 rfl
  obtain ⟨o1, k1⟩ := hone_of hone 1 f1 rfl
  obtain ⟨o2, k2⟩ := hone_of hone 2 f2 rfl
  obtain ⟨o3, k3⟩ := hone_of hone 3 f3 rfl
  obtain ⟨o4, k4⟩ := hone_of hone 4 f4 rfl
  obtain ⟨o5, k5⟩ := hone_of hone 5 f5 rfl
  obtain ⟨o6, k6⟩ := hone_of hone 6 f6 rfl
  obtain ⟨o7, k7⟩ := hone_of hone 7 f7 rfl
  match xs, hlen with
  | [y0, y1, y2, y3, y4, y5, y6, y7], _ =>
    simp only [Prod.mk.injEq] at hx
    obtain ⟨n0, e0, z0, w0⟩ := DataW.trod_int (by rw [t0]; exact hI) (by simpa [Value.cells, o0, k0] using hg 0 f0 rfl : DataW.trod enc P w base spare held n f0.type [c0] = some y0)
    obtain ⟨n1, e1, z1, w1⟩ := DataW.trod_int (by rw [t1]; exact hI) (by simpa [Value.cells, o1, k1] using hg 1 f1 rfl : DataW.trod enc P w base spare held n f1.type [c1] = some y1)
    obtain ⟨n2, e2, z2, w2⟩ := DataW.trod_int (by rw [t2]; exact hI) (by simpa [Value.cells, o2, k2] using hg 2 f2 rfl : DataW.trod enc P w base spare held n f2.type [c2] = some y2)
    obtain ⟨n3, e3, z3, w3⟩ := DataW.trod_int (by rw [t3]; exact hI) (by simpa [Value.cells, o3, k3] using hg 3 f3 rfl : DataW.trod enc P w base spare held n f3.type [c3] = some y3)
    obtain ⟨n4, e4, z4, w4⟩ := DataW.trod_int (by rw [t4]; exact hI) (by simpa [Value.cells, o4, k4] using hg 4 f4 rfl : DataW.trod enc P w base spare held n f4.type [c4] = some y4)
    obtain ⟨n5, e5, z5, w5⟩ := DataW.trod_int (by rw [t5]; exact hI) (by simpa [Value.cells, o5, k5] using hg 5 f5 rfl : DataW.trod enc P w base spare held n f5.type [c5] = some y5)
    obtain ⟨n6, e6, z6, w6⟩ := DataW.trod_int (by rw [t6]; exact hI) (by simpa [Value.cells, o6, k6] using hg 6 f6 rfl : DataW.trod enc P w base spare held n f6.type [c6] = some y6)
    obtain ⟨n7, e7, z7, w7⟩ := DataW.trod_int (by rw [t7]; exact hI) (by simpa [Value.cells, o7, k7] using hg 7 f7 rfl : DataW.trod enc P w base spare held n f7.type [c7] = some y7)
    simp only [List.cons.injEq, and_true] at e0 e1 e2 e3 e4 e5 e6 e7
    subst e0 e1 e2 e3 e4 e5 e6 e7
    subst z0 z1 z2 z3 z4 z5 z6 z7
    exact ⟨n0, n1, n2, n3, n4, n5, n6, n7, rfl, by simpa using hx.1, by simpa using hx.2, w0, w1, w2, w3, w4, w5, w6, w7⟩
theorem shut_i8 (ti : TypeId) {t : TypeId} {f0 f1 f2 f3 f4 f5 f6 f7 : Field} {n0 n1 n2 n3 n4 n5 n6 n7 : Int} (hs : P.underlying t = some (.struct #[f0, f1, f2, f3, f4, f5, f6, f7])) (hone : oneCellFields P #[f0, f1, f2, f3, f4, f5, f6, f7] = true) (hC : P.cellsOf t = 8)
    (hI : P.underlying ti = some (.int .i64)) (t0 : f0.type = ti) (t1 : f1.type = ti) (t2 : f2.type = ti) (t3 : f3.type = ti) (t4 : f4.type = ti) (t5 : f5.type = ti) (t6 : f6.type = ti) (t7 : f7.type = ti)
    (w0 : (Lit.int .i64 n0).wf = true) (w1 : (Lit.int .i64 n1).wf = true) (w2 : (Lit.int .i64 n2).wf = true) (w3 : (Lit.int .i64 n3).wf = true) (w4 : (Lit.int .i64 n4).wf = true) (w5 : (Lit.int .i64 n5).wf = true) (w6 : (Lit.int .i64 n6).wf = true) (w7 : (Lit.int .i64 n7).wf = true) :
    DataW.Trod enc P w base spare held t (.agg #[.int .i64 n0, .int .i64 n1, .int .i64 n2, .int .i64 n3, .int .i64 n4, .int .i64 n5, .int .i64 n6, .int .i64 n7]) (.agg [.lit (.int .i64 n0), .lit (.int .i64 n1), .lit (.int .i64 n2), .lit (.int .i64 n3), .lit (.int .i64 n4), .lit (.int .i64 n5), .lit (.int .i64 n6), .lit (.int .i64 n7)]) [] := by
  obtain ⟨o0, k0⟩ := hone_of hone 0 f0 rfl
  obtain ⟨o1, k1⟩ := hone_of hone 1 f1 rfl
  obtain ⟨o2, k2⟩ := hone_of hone 2 f2 rfl
  obtain ⟨o3, k3⟩ := hone_of hone 3 f3 rfl
  obtain ⟨o4, k4⟩ := hone_of hone 4 f4 rfl
  obtain ⟨o5, k5⟩ := hone_of hone 5 f5 rfl
  obtain ⟨o6, k6⟩ := hone_of hone 6 f6 rfl
  obtain ⟨o7, k7⟩ := hone_of hone 7 f7 rfl
  have h0 : DataW.trod enc P w base spare held 1 f0.type [.int .i64 n0] = some (.lit (.int .i64 n0), []) := trod_int_mk 0 (by rw [t0]; exact hI) w0
  have h1 : DataW.trod enc P w base spare held 1 f1.type [.int .i64 n1] = some (.lit (.int .i64 n1), []) := trod_int_mk 0 (by rw [t1]; exact hI) w1
  have h2 : DataW.trod enc P w base spare held 1 f2.type [.int .i64 n2] = some (.lit (.int .i64 n2), []) := trod_int_mk 0 (by rw [t2]; exact hI) w2
  have h3 : DataW.trod enc P w base spare held 1 f3.type [.int .i64 n3] = some (.lit (.int .i64 n3), []) := trod_int_mk 0 (by rw [t3]; exact hI) w3
  have h4 : DataW.trod enc P w base spare held 1 f4.type [.int .i64 n4] = some (.lit (.int .i64 n4), []) := trod_int_mk 0 (by rw [t4]; exact hI) w4
  have h5 : DataW.trod enc P w base spare held 1 f5.type [.int .i64 n5] = some (.lit (.int .i64 n5), []) := trod_int_mk 0 (by rw [t5]; exact hI) w5
  have h6 : DataW.trod enc P w base spare held 1 f6.type [.int .i64 n6] = some (.lit (.int .i64 n6), []) := trod_int_mk 0 (by rw [t6]; exact hI) w6
  have h7 : DataW.trod enc P w base spare held 1 f7.type [.int .i64 n7] = some (.lit (.int .i64 n7), []) := trod_int_mk 0 (by rw [t7]; exact hI) w7
  have ts := trod_struct_mk (enc := enc) (w := w) (base := base) (spare := spare) (held := held) (n := 1) (cs := [.int .i64 n0, .int .i64 n1, .int .i64 n2, .int .i64 n3, .int .i64 n4, .int .i64 n5, .int .i64 n6, .int .i64 n7]) (xs := [(.lit (.int .i64 n0), []), (.lit (.int .i64 n1), []), (.lit (.int .i64 n2), []), (.lit (.int .i64 n3), []), (.lit (.int .i64 n4), []), (.lit (.int .i64 n5), []), (.lit (.int .i64 n6), []), (.lit (.int .i64 n7), [])]) hs (by simp [hC]) (by simp [o0, o1, o2, o3, o4, o5, o6, o7, k0, k1, k2, k3, k4, k5, k6, k7, h0, h1, h2, h3, h4, h5, h6, h7])
  exact ⟨2, by simpa [Value.cells] using ts⟩
end
end Go.Proofs.YtodbmnbahldabaaDoor
