/- What the draws of equations hand back: some numbers, and old memory stands. -/
import Derived.Test.YtdbbjmcfpfalhaaDoorSrc
import Derived.Test.YtdbbjmcfpfalhaaDoorEqE
namespace Go.Proofs.YtdbbjmcfpfalhaaDoor
open Go.ChangeShapes Go.WideShapes Go.ChangeAt Go.RowKit
set_option linter.unusedVariables false
set_option maxHeartbeats 8000000
set_option maxRecDepth 20000
theorem gbSetNew {w a : World} {r : Option Nat} {b i : Nat} {u : Value} (h : w.grownBy a r) (hb : w.heap.size ≤ b) : w.grownBy (a.setCell ⟨b, i, none⟩ u) r :=
  ⟨h.os, h.tape, h.output, by simp [World.setCell]; exact h.size, fun k hk hne => (heap_setCell_other a ⟨b, i, none⟩ k u (by show k ≠ b; omega)).trans (h.block k hk hne)⟩
theorem gbRow {w a b : World} {r row : Option Nat} (h : w.grownBy a r) (hg : a.grownBy b row) (hr : ∀ k, row = some k → w.heap.size ≤ k) : w.grownBy b r :=
  ⟨hg.os.trans h.os, hg.tape.trans h.tape, hg.output.trans h.output, Nat.le_trans h.size hg.size, fun k hk hne => (hg.block k (Nat.lt_of_lt_of_le hk h.size) (fun e => by have := hr k e.symm; omega)).trans (h.block k hk hne)⟩
theorem Src.set {w : World} {g b i : Nat} {v u : Value} {M : Int} (h : Src w g v M) (hb : g ≠ b) : Src (w.setCell ⟨b, i, none⟩ u) g v M := by
  obtain ⟨a, s, h1, h2, h3, h4⟩ := h
  exact ⟨a, s, h1, h2, h3, (heapAt_set_other hb).trans h4⟩
theorem Src.alloc {w : World} {g : Nat} {v : Value} {M : Int} (h : Src w g v M) (o : Obj) : Src (w.alloc o) g v M := h.below (Below.alloc (Below.refl w.heap.size w) (Nat.le_refl _) o) h.lt
theorem Src.drew {w : World} {g : Nat} {v : Value} {M : Int} (h : Src w g v M) : Src w.drew g v M := h
theorem Src.drewN {w : World} {g : Nat} {v : Value} {M : Int} (h : Src w g v M) (n : Nat) : Src (w.drewN n) g v M := h
theorem Src.row {w a : World} {g : Nat} {v : Value} {M : Int} {row : Option Nat} (h : Src w g v M) (hg : w.grownBy a row) (hr : row ≠ some g) : Src a g v M := by
  have hz := h.lt
  obtain ⟨x, s, h1, h2, h3, h4⟩ := h
  exact ⟨x, s, h1, h2, h3, (hg.block g hz (fun e => hr e.symm)).trans h4⟩
theorem lit_cells {w : World} {b : Nat} {T : TypeId} {fr : Nat × Nat} (L : List Int) (lo hi : Int) (h : heapAt w b = some (.cells ((L.map (Value.int .i64)).toArray) T fr)) (hb : ∀ x ∈ L, lo ≤ x ∧ x ≤ hi) :
    ∀ j, j < L.length → ∃ x, lo ≤ x ∧ x ≤ hi ∧ w.cell? ⟨b, j, none⟩ = some (.int .i64 x) := by
  intro j hj
  have h2 := hb _ (List.getElem_mem hj)
  refine ⟨L[j], h2.1, h2.2, ?_⟩
  rw [cell_of_row w b j _ T fr h]
  simp [hj]
/-- One of some numbers that are written out. -/
theorem amongL (L : List Int) (lo hi : Int) (hL : ∀ x ∈ L, lo ≤ x ∧ x ≤ hi) (m : Nat) (hm : L.length = m) (hm1 : 1 ≤ m ∧ m ≤ 1000) (T : TypeId) (g : Nat) (ao : Option Addr) (n cap : Nat) (M : Int) (w : World) (hs : Src w g (.slice ao n cap) M) (hM : M ≤ 900000) (hr : ByteRow w ao n g) (hn : n ≤ 4096) :
    Calls Tryd.prog 28 #[.pointer (some ⟨g, 0, none⟩), .slice (some ⟨w.heap.size, 0, none⟩) m m] (w.alloc (.cells ((L.map (Value.int .i64)).toArray) T)) (RetN g (.slice ao n cap) (M + 2) lo hi w) := by
  subst hm
  have hz := hs.lt
  refine (among_any g ao n cap M _ (hs.alloc _) hM (hr.below (Below.alloc (Below.refl w.heap.size w) (Nat.le_refl _) _) (by omega)) hn L w.heap.size L.length L.length lo hi (lit_cells L lo hi (heapAt_new w _) hL) hm1 (by omega) (by simp)).mono ?_
  rintro e w1 ⟨x, h1, h2, h3, h4, h5⟩
  exact ⟨x, h1, h2, h3, h4, gbTrans (gbAlloc (gbRefl _ _) _) h5⟩
/-- Two numbers, and the source some choices on. -/
def RetDN (g : Nat) (v : Value) (M : Int) (w : World) (e : Ending) (w' : World) : Prop :=
  ∃ d n : Int, e = .returned (.tuple #[.int .i64 d, .int .i64 n]) ∧ Src w' g v M ∧ w.grownBy w' (some g) ∧ (-9223372036854775808 ≤ d ∧ d ≤ 9223372036854775807) ∧ (-9223372036854775808 ≤ n ∧ n ≤ 9223372036854775807)
/-- A pair, and the source some choices on. -/
def RetXY (g : Nat) (v : Value) (M : Int) (w : World) (e : Ending) (w' : World) : Prop :=
  ∃ x y : Int, e = .returned (.agg #[.int .i64 x, .int .i64 y]) ∧ Src w' g v M ∧ w.grownBy w' (some g)

theorem l10Draw_any (g : Nat) (ao : Option Addr) (n cap : Nat) (M : Int) (w : World) (hs : Src w g (.slice ao n cap) M) (hM : M ≤ 800000) (hr : ByteRow w ao n g) (hn : n ≤ 4096) :
    Calls Tryd.prog 26 #[.pointer (some ⟨g, 0, none⟩)] w (RetDN g (.slice ao n cap) (M + 20) w) := by
  have hz := hs.lt
  have S0 := Lib.hid hs
  have HR := Lib.hid hr
  have G0 := Lib.hid (gbRefl w (some g))
  clear hs hr
  go_enter Tryd.func26, Tryd.ntmps26
  go_wp2_with fail
  refine (amongL [2, 3, 5, 6, 7, 8, 10, 11, 12, 13, 14, 15, 17, 19, 21, 23, 24, 26, 30, 34, 40, 47, 60, 79, 95, 120] (2) 120 (by decide) 26 rfl (by omega) _ g ao n cap M _ S0.out (by omega) (HR.out.grown G0.out hz) hn).mono ?_
  rintro e w1 ⟨d, rfl, dl, du, s1, g1⟩
  have S1 := Lib.hid s1
  have G1 := Lib.hid (gbTrans G0.out g1)
  clear s1 g1
  go_wp2_with fail
  refine (pick_any 60 g ao n cap (M + 2) _ S1.out (by omega) (HR.out.grown G1.out hz) hn (by omega)).mono ?_
  rintro e w2 ⟨n0, rfl, n0l, n0u, s2, g2⟩
  have S2 := Lib.hid s2
  have G2 := Lib.hid (gbTrans G1.out g2)
  clear s2 g2
  go_wp2_with fail
  refine (one_any 2 g ao n cap (M + 2 + 2) _ S2.out (by omega) (HR.out.grown G2.out hz) hn (by omega)).mono ?_
  rintro e w3 ⟨b1, rfl, s3, g3⟩
  have S3 := Lib.hid s3
  have G3 := Lib.hid (gbTrans G2.out g3)
  clear s3 g3
  cases b1
  · go_wp2_with fail
    refine (pick_any 20 g ao n cap (M + 2 + 2 + 2) _ S3.out (by omega) (HR.out.grown G3.out hz) hn (by omega)).mono ?_
    rintro e w4 ⟨q, rfl, ql, qu, s4, g4⟩
    have S4 := Lib.hid s4
    have G4 := Lib.hid (gbTrans G3.out g4)
    clear s4 g4
    by_cases q0 : q = 0
    · subst q0
      go_wp2_with fail
      refine (amongL [-1, 1, 2, 4, 999, 1000, 1001] (-1) 1001 (by decide) 7 rfl (by omega) _ g ao n cap (M + 2 + 2 + 2 + 2) _ S4.out (by omega) (HR.out.grown G4.out hz) hn).mono ?_
      rintro e w5 ⟨r, rfl, rl, ru, s5, g5⟩
      have S5 := Lib.hid s5
      have G5 := Lib.hid (gbTrans G4.out g5)
      clear s5 g5
      go_wp2_with fail
      go_ret2
      exact ⟨_, _, rfl, S5.out.mono (by omega), G5.out, by omega, by omega⟩
    · have q0b : (q == 0) = false := by simp [q0]
      by_cases q1 : q = 1
      · subst q1
        go_wp2_with fail
        refine (amongL [-1001, -1000, 0, 1000, 1001, -9223372036854775808] (-9223372036854775808) 1001 (by decide) 6 rfl (by omega) _ g ao n cap (M + 2 + 2 + 2 + 2) _ S4.out (by omega) (HR.out.grown G4.out hz) hn).mono ?_
        rintro e w5 ⟨r, rfl, rl, ru, s5, g5⟩
        have S5 := Lib.hid s5
        have G5 := Lib.hid (gbTrans G4.out g5)
        clear s5 g5
        go_wp2_with fail
        go_ret2
        exact ⟨_, _, rfl, S5.out.mono (by omega), G5.out, by omega, by omega⟩
      · have q1b : (q == 1) = false := by simp [q1]
        by_cases q2 : q = 2
        · subst q2
          go_wp2_with fail
          refine (amongL [61, 109, 53, 73, 97, 211] (53) 211 (by decide) 6 rfl (by omega) _ g ao n cap (M + 2 + 2 + 2 + 2) _ S4.out (by omega) (HR.out.grown G4.out hz) hn).mono ?_
          rintro e w5 ⟨r, rfl, rl, ru, s5, g5⟩
          have S5 := Lib.hid s5
          have G5 := Lib.hid (gbTrans G4.out g5)
          clear s5 g5
          go_wp2_with fail
          go_ret2
          exact ⟨_, _, rfl, S5.out.mono (by omega), G5.out, by omega, by omega⟩
        · have q2b : (q == 2) = false := by simp [q2]
          go_wp2_with fail
          go_ret2
          exact ⟨_, _, rfl, S4.out.mono (by omega), G4.out, by omega, by omega⟩
  · go_wp2_with fail
    refine (pick_any 12 g ao n cap (M + 2 + 2 + 2) _ S3.out (by omega) (HR.out.grown G3.out hz) hn (by omega)).mono ?_
    rintro e w4 ⟨x, rfl, xl, xu, s4, g4⟩
    have S4 := Lib.hid s4
    have G4 := Lib.hid (gbTrans G3.out g4)
    clear s4 g4
    go_wp2_with fail
    refine (pick_any 5 g ao n cap (M + 2 + 2 + 2 + 2) _ S4.out (by omega) (HR.out.grown G4.out hz) hn (by omega)).mono ?_
    rintro e w5 ⟨y, rfl, yl, yu, s5, g5⟩
    have S5 := Lib.hid s5
    have G5 := Lib.hid (gbTrans G4.out g5)
    clear s5 g5
    have m1 := mul_b (a := x) (b := x) (A := 11) (B := 11) (by omega) (by omega)
    have m2 := mul_b (a := d) (b := y) (A := 120) (B := 4) (by omega) (by omega)
    have m3 := mul_b (a := d * y) (b := y) (A := 480) (B := 4) (by omega) (by omega)
    go_wp2_with fail
    refine (pick_any 20 g ao n cap (M + 2 + 2 + 2 + 2 + 2) _ S5.out (by omega) (HR.out.grown G5.out hz) hn (by omega)).mono ?_
    rintro e w6 ⟨q, rfl, ql, qu, s6, g6⟩
    have S6 := Lib.hid s6
    have G6 := Lib.hid (gbTrans G5.out g6)
    clear s6 g6
    by_cases q0 : q = 0
    · subst q0
      go_wp2_with fail
      refine (amongL [-1, 1, 2, 4, 999, 1000, 1001] (-1) 1001 (by decide) 7 rfl (by omega) _ g ao n cap (M + 2 + 2 + 2 + 2 + 2 + 2) _ S6.out (by omega) (HR.out.grown G6.out hz) hn).mono ?_
      rintro e w7 ⟨r, rfl, rl, ru, s7, g7⟩
      have S7 := Lib.hid s7
      have G7 := Lib.hid (gbTrans G6.out g7)
      clear s7 g7
      go_wp2_with fail
      go_ret2
      exact ⟨_, _, rfl, S7.out.mono (by omega), G7.out, by omega, by omega⟩
    · have q0b : (q == 0) = false := by simp [q0]
      by_cases q1 : q = 1
      · subst q1
        go_wp2_with fail
        refine (amongL [-1001, -1000, 0, 1000, 1001, -9223372036854775808] (-9223372036854775808) 1001 (by decide) 6 rfl (by omega) _ g ao n cap (M + 2 + 2 + 2 + 2 + 2 + 2) _ S6.out (by omega) (HR.out.grown G6.out hz) hn).mono ?_
        rintro e w7 ⟨r, rfl, rl, ru, s7, g7⟩
        have S7 := Lib.hid s7
        have G7 := Lib.hid (gbTrans G6.out g7)
        clear s7 g7
        go_wp2_with fail
        go_ret2
        exact ⟨_, _, rfl, S7.out.mono (by omega), G7.out, by omega, by omega⟩
      · have q1b : (q == 1) = false := by simp [q1]
        by_cases q2 : q = 2
        · subst q2
          go_wp2_with fail
          refine (amongL [61, 109, 53, 73, 97, 211] (53) 211 (by decide) 6 rfl (by omega) _ g ao n cap (M + 2 + 2 + 2 + 2 + 2 + 2) _ S6.out (by omega) (HR.out.grown G6.out hz) hn).mono ?_
          rintro e w7 ⟨r, rfl, rl, ru, s7, g7⟩
          have S7 := Lib.hid s7
          have G7 := Lib.hid (gbTrans G6.out g7)
          clear s7 g7
          go_wp2_with fail
          go_ret2
          exact ⟨_, _, rfl, S7.out.mono (by omega), G7.out, by omega, by omega⟩
        · have q2b : (q == 2) = false := by simp [q2]
          go_wp2_with fail
          go_ret2
          exact ⟨_, _, rfl, S6.out.mono (by omega), G6.out, by omega, by omega⟩
end Go.Proofs.YtdbbjmcfpfalhaaDoor
