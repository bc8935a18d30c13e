/- What the draws of forms, numbers and discriminants hand back. -/
import Derived.Test.YtodbmnbahldabaaDoorFDr
import Derived.Test.YtodbmnbahldabaaDoorShP
namespace Go.Proofs.YtodbmnbahldabaaDoor
open Go.ChangeShapes Go.WideShapes Go.ChangeAt Go.RowKit
set_option linter.unusedVariables false
set_option maxHeartbeats 8000000
set_option maxRecDepth 20000
/-- A number that P holds for, and the source some choices on. -/
def RetP (g : Nat) (v : Value) (M : Int) (P : Int → Prop) (w : World) (e : Ending) (w' : World) : Prop :=
  ∃ x : Int, e = .returned (.int .i64 x) ∧ P x ∧ Src w' g v M ∧ w.grownBy w' (some g)
theorem lit_cellsP {w : World} {b : Nat} {T : TypeId} {fr : Nat × Nat} (L : List Int) (h : heapAt w b = some (.cells ((L.map (Value.int .i64)).toArray) T fr)) :
    ∀ j, j < L.length → ∃ x, x ∈ L ∧ w.cell? ⟨b, j, none⟩ = some (.int .i64 x) := by
  intro j hj
  refine ⟨L[j], List.getElem_mem hj, ?_⟩
  rw [cell_of_row w b j _ T fr h]
  simp [hj]
theorem among_anyP (g : Nat) (ao : Option Addr) (n cap : Nat) (M : Int) (w : World) (hs : Src w g (.slice ao n cap) M) (hM : M ≤ 900000) (hr : ByteRow w ao n g) (hn : n ≤ 4096)
    (L : List Int) (b m c : Nat) (hL : ∀ j, j < m → ∃ x, x ∈ L ∧ w.cell? ⟨b, j, none⟩ = some (.int .i64 x)) (hm : 1 ≤ m ∧ m ≤ 1000) (hb : b ≠ g) (hbz : b < w.heap.size) :
    Calls Tryd.prog 40 #[.pointer (some ⟨g, 0, none⟩), .slice (some ⟨b, 0, none⟩) m c] w (RetP g (.slice ao n cap) (M + 2) (fun x => x ∈ L) w) := by
  have PK := Lib.hid (pick_any m g ao n cap M w hs hM hr hn (by omega))
  have HL := Lib.hid hL
  clear hs hr hL
  go_enter Tryd.func40, Tryd.ntmps40
  go_wp2_with fail
  refine PK.out.mono ?_
  rintro e w1 ⟨x, rfl, x0, x1, s1, g1⟩
  have S1 := Lib.hid s1
  have G1 := Lib.hid g1
  clear s1 g1
  obtain ⟨j, rfl⟩ := Int.eq_ofNat_of_zero_le x0
  obtain ⟨y, y0, hy⟩ := HL.out j (by omega)
  have Y0 := Lib.hid y0
  have hy1 : w1.cell? ⟨b, j, none⟩ = some (.int .i64 y) := (World.cell?_of_block (w := w) (a := ⟨b, j, none⟩) (G1.out.block b hbz (fun e => by simp at e; omega))).trans hy
  have j1 : (j : Int) < (m : Int) := by omega
  clear y0
  go_wp2_with fail
  go_ret
  exact ⟨y, rfl, Y0.out, S1.out, G1.out⟩
theorem amongP (L : List Int) (m : Nat) (hm : L.length = m) (hm1 : 1 ≤ m ∧ m ≤ 1000) (T : TypeId) (g : Nat) (ao : Option Addr) (n cap : Nat) (M : Int) (w : World) (hs : Src w g (.slice ao n cap) M) (hM : M ≤ 900000) (hr : ByteRow w ao n g) (hn : n ≤ 4096) :
    Calls Tryd.prog 40 #[.pointer (some ⟨g, 0, none⟩), .slice (some ⟨w.heap.size, 0, none⟩) m m] (w.alloc (.cells ((L.map (Value.int .i64)).toArray) T)) (RetP g (.slice ao n cap) (M + 2) (fun x => x ∈ L) w) := by
  subst hm
  have hz := hs.lt
  refine (among_anyP g ao n cap M _ (hs.alloc _) hM (hr.below (Below.alloc (Below.refl w.heap.size w) (Nat.le_refl _) _) (by omega)) hn L w.heap.size L.length L.length (lit_cellsP L (heapAt_new w _)) hm1 (by omega) (by simp)).mono ?_
  rintro e w1 ⟨x, h1, h2, h4, h5⟩
  exact ⟨x, h1, h2, h4, gbTrans (gbAlloc (gbRefl _ _) _) h5⟩


theorem bent_small {a b c : Int} (h : (-20 ≤ a ∧ a ≤ 20) ∧ (-20 ≤ b ∧ b ≤ 20)) : BentP a b c := fun _ _ => ⟨h.2, .inl h.1.2⟩
theorem bent_a {a b c : Int} (ha : a ∈ [-10001, -10000, 10000, 10001]) (hb : -20 ≤ b ∧ b ≤ 20) : BentP a b c := fun hv hd => by
  obtain ⟨h1, -, -⟩ := vF_in hv
  have := (vF_cpos hv hd).2
  simp at ha
  exact ⟨hb, .inr (by omega)⟩
theorem bent_not {a b c : Int} (h : 0 ≤ dF a b c) : BentP a b c := fun _ hd => absurd hd (by omega)
theorem bent_b {a b c : Int} (hb : b ∈ [-10000, 10000, 10001, -9223372036854775808]) (ha : -20 ≤ a ∧ a ≤ 20) (hc : -20 ≤ c ∧ c ≤ 20) : BentP a b c := fun hv hd => by
  obtain ⟨-, h1, -⟩ := vF_in hv
  simp at hb
  have m2 := mul_f (a := 4 * a) (b := c) (A := 80) (B := 20) (by omega) hc
  have e : dF a b c = b * b - 4 * a * c := rfl
  rcases hb with rfl | rfl | rfl | rfl <;> omega
theorem bent_c {c : Int} (hc : c ≤ 0) : BentP 10000 9999 c := bent_not (by unfold dF; omega)
theorem bent_d {a b c : Int} (ha : 1 ≤ a ∧ a ≤ 9) (hb : 9000 ≤ b ∧ b ≤ 9999) (hc : 1 ≤ c ∧ c ≤ 9) : BentP a b c := bent_not (by
  have m2 := mul_f (a := 4 * a) (b := c) (A := 36) (B := 9) (by omega) (by omega)
  have m3 := Int.mul_le_mul hb.1 hb.1 (by omega) (by omega)
  unfold dF
  omega)
/-- A form that is drawn, and the source some choices on. -/
def RetBent (g : Nat) (v : Value) (M : Int) (w : World) (e : Ending) (w' : World) : Prop :=
  ∃ a b c : Int, e = .returned (.agg #[.int .i64 a, .int .i64 b, .int .i64 c]) ∧ BentP a b c ∧ Src w' g v M ∧ w.grownBy w' (some g)
theorem l11Bent_any (g : Nat) (ao : Option Addr) (n cap : Nat) (M : Int) (w : World) (hs : Src w g (.slice ao n cap) M) (hM : M ≤ 700000) (hr : ByteRow w ao n g) (hn : n ≤ 4096) :
    Calls Tryd.prog 59 #[.pointer (some ⟨g, 0, none⟩)] w (RetBent g (.slice ao n cap) (M + 200) w) := by
  have hz := hs.lt
  have S0 := Lib.hid hs
  have HR := Lib.hid hr
  have G0 := Lib.hid (gbRefl w (some g))
  clear hs hr
  go_enter Tryd.func59, Tryd.ntmps59
  go_wp2_with fail
  refine (l11Draw_any g ao n cap (M) _ ((S0.out).alloc _) (by omega) (HR.out.grown (gbAlloc (G0.out) _) hz) hn).mono ?_
  rintro e w1 ⟨a, b, c, rfl, hsm, s1, g1⟩
  have R1 : Hid (heapAt w1 (w.heap.size) = some (.cells #[.int .i64 0, .int .i64 0, .int .i64 0] 25 (0, 0))) := Lib.hid (hpG (heapAt_new _ _) g1 (by omega))
  have S1 := Lib.hid s1
  have G1 := Lib.hid (gbTrans (gbAlloc (G0.out) _) g1)
  have hz1 := G1.out.size
  have hgg1 := g1.size
  clear s1 g1
  have szR1 := blk_lt R1.out
  have HS := Lib.hid hsm
  obtain ⟨ha, hb, hc, -⟩ := hsm
  go_wp2_with fail
  refine (pick_any 20 g ao n cap (M + 100) _ ((S1.out).alloc _) (by omega) (HR.out.grown (gbAlloc (G1.out) _) hz) hn (by omega)).mono ?_
  rintro e w2 ⟨x, rfl, xl, xu, s2, g2⟩
  have R2 : Hid (heapAt w2 (w.heap.size) = some (.cells #[.int .i64 0, .int .i64 0, .int .i64 0] 25 (0, 0))) := Lib.hid (hpG ((heapAt_old (blk_lt R1.out)).trans R1.out) g2 (by omega))
  have F2 : Hid (heapAt w2 (w1.heap.size) = some (.cells #[.int .i64 a, .int .i64 b, .int .i64 c] 25 (0, 0))) := Lib.hid (hpG (heapAt_new _ _) g2 (by omega))
  have S2 := Lib.hid s2
  have G2 := Lib.hid (gbTrans (gbAlloc (G1.out) _) g2)
  have hz2 := G2.out.size
  have hgg2 := g2.size
  clear s2 g2
  have szR2 := blk_lt R2.out
  have szF2 := blk_lt F2.out
  have nFR : w1.heap.size ≠ w.heap.size := by omega
  by_cases x0 : x = 0
  · subst x0
    have cF := F2.out
    obtain ⟨zF, pF0, pF1, pF2, fF0, fF1, fF2⟩ := blk3 cF
    have cR := R2.out
    obtain ⟨zR, pR0, pR1, pR2, fR0, fR1, fR2⟩ := blk3 cR
    go_wp2_with fail
    refine (amongP [-10001, -10000, 10000, 10001] 4 rfl (by omega) _ g ao n cap (M + 100 + 2) _ S2.out (by omega) (HR.out.grown G2.out hz) hn).mono ?_
    rintro e w3 ⟨y, rfl, hy, s3, g3⟩
    have R3 : Hid (heapAt w3 (w.heap.size) = some (.cells #[.int .i64 0, .int .i64 0, .int .i64 0] 25 (0, 0))) := Lib.hid (hpG (R2.out) g3 (by omega))
    have F3 : Hid (heapAt w3 (w1.heap.size) = some (.cells #[.int .i64 a, .int .i64 b, .int .i64 c] 25 (0, 0))) := Lib.hid (hpG (F2.out) g3 (by omega))
    have S3 := Lib.hid s3
    have G3 := Lib.hid (gbTrans (G2.out) g3)
    have hz3 := G3.out.size
    have hgg3 := g3.size
    clear s3 g3
    have szR3 := blk_lt R3.out
    have szF3 := blk_lt F3.out
    have HY := Lib.hid hy
    clear hy
    clear pF0 pF1 pF2 fF0 fF1 fF2 cF
    clear pR0 pR1 pR2 fR0 fR1 fR2 cR
    have cF := F3.out
    obtain ⟨zF, pF0, pF1, pF2, fF0, fF1, fF2⟩ := blk3 cF
    have cR := R3.out
    obtain ⟨zR, pR0, pR1, pR2, fR0, fR1, fR2⟩ := blk3 cR
    go_wp2_with fail
    apply body_row1 (w.heap.size) 25 Tryd.results59 Tryd.underlying25 rfl rfl rfl; (case q => simp (disch := (first | omega | (simp; done) | (simp; omega))) [*]; try rfl); (case hi => kernel_rfl)
    exact ⟨_, _, _, rfl, bent_a HY.out hb, (((((S3.out).set (by omega)).set (by omega)).set (by omega)).set (by omega)).mono (by omega), gbSetNew (gbSetNew (gbSetNew (gbSetNew (G3.out) (by omega)) (by omega)) (by omega)) (by omega)⟩
  by_cases x1 : x = 1
  · subst x1
    have cF := F2.out
    obtain ⟨zF, pF0, pF1, pF2, fF0, fF1, fF2⟩ := blk3 cF
    have cR := R2.out
    obtain ⟨zR, pR0, pR1, pR2, fR0, fR1, fR2⟩ := blk3 cR
    go_wp2_with fail
    refine (amongP [-10000, 10000, 10001, -9223372036854775808] 4 rfl (by omega) _ g ao n cap (M + 100 + 2) _ S2.out (by omega) (HR.out.grown G2.out hz) hn).mono ?_
    rintro e w3 ⟨y, rfl, hy, s3, g3⟩
    have R3 : Hid (heapAt w3 (w.heap.size) = some (.cells #[.int .i64 0, .int .i64 0, .int .i64 0] 25 (0, 0))) := Lib.hid (hpG (R2.out) g3 (by omega))
    have F3 : Hid (heapAt w3 (w1.heap.size) = some (.cells #[.int .i64 a, .int .i64 b, .int .i64 c] 25 (0, 0))) := Lib.hid (hpG (F2.out) g3 (by omega))
    have S3 := Lib.hid s3
    have G3 := Lib.hid (gbTrans (G2.out) g3)
    have hz3 := G3.out.size
    have hgg3 := g3.size
    clear s3 g3
    have szR3 := blk_lt R3.out
    have szF3 := blk_lt F3.out
    have HY := Lib.hid hy
    clear hy
    clear pF0 pF1 pF2 fF0 fF1 fF2 cF
    clear pR0 pR1 pR2 fR0 fR1 fR2 cR
    have cF := F3.out
    obtain ⟨zF, pF0, pF1, pF2, fF0, fF1, fF2⟩ := blk3 cF
    have cR := R3.out
    obtain ⟨zR, pR0, pR1, pR2, fR0, fR1, fR2⟩ := blk3 cR
    go_wp2_with fail
    apply body_row1 (w.heap.size) 25 Tryd.results59 Tryd.underlying25 rfl rfl rfl; (case q => simp (disch := (first | omega | (simp; done) | (simp; omega))) [*]; try rfl); (case hi => kernel_rfl)
    exact ⟨_, _, _, rfl, bent_b HY.out ha hc, (((((S3.out).set (by omega)).set (by omega)).set (by omega)).set (by omega)).mono (by omega), gbSetNew (gbSetNew (gbSetNew (gbSetNew (G3.out) (by omega)) (by omega)) (by omega)) (by omega)⟩
  by_cases x4 : x = 4
  · subst x4
    have cF := F2.out
    obtain ⟨zF, pF0, pF1, pF2, fF0, fF1, fF2⟩ := blk3 cF
    have cR := R2.out
    obtain ⟨zR, pR0, pR1, pR2, fR0, fR1, fR2⟩ := blk3 cR
    go_wp2_with fail
    refine (pick_any 3 g ao n cap (M + 100 + 2) _ (((S2.out).set (by omega)).set (by omega)) (by omega) (HR.out.grown (gbSetNew (gbSetNew (G2.out) (by omega)) (by omega)) hz) hn (by omega)).mono ?_
    rintro e w3 ⟨y, rfl, yl, yu, s3, g3⟩
    have R3 : Hid (heapAt w3 (w.heap.size) = some (.cells #[.int .i64 0, .int .i64 0, .int .i64 0] 25 (0, 0))) := Lib.hid (hpG ((heapAt_set_other (by omega)).trans ((heapAt_set_other (by omega)).trans (R2.out))) g3 (by omega))
    have F3 : Hid (heapAt w3 (w1.heap.size) = some (.cells #[.int .i64 10000, .int .i64 9999, .int .i64 c] 25 (0, 0))) := Lib.hid (hpG (by rw [heapAt_set, heapAt_set, F2.out]; rfl) g3 (by omega))
    have S3 := Lib.hid s3
    have G3 := Lib.hid (gbTrans (gbSetNew (gbSetNew (G2.out) (by omega)) (by omega)) g3)
    have hz3 := G3.out.size
    have hgg3 := g3.size
    clear s3 g3
    have szR3 := blk_lt R3.out
    have szF3 := blk_lt F3.out
    clear pF0 pF1 pF2 fF0 fF1 fF2 cF
    clear pR0 pR1 pR2 fR0 fR1 fR2 cR
    have cF := F3.out
    obtain ⟨zF, pF0, pF1, pF2, fF0, fF1, fF2⟩ := blk3 cF
    have cR := R3.out
    obtain ⟨zR, pR0, pR1, pR2, fR0, fR1, fR2⟩ := blk3 cR
    go_wp2_with fail
    apply body_row1 (w.heap.size) 25 Tryd.results59 Tryd.underlying25 rfl rfl rfl; (case q => simp (disch := (first | omega | (simp; done) | (simp; omega))) [*]; try rfl); (case hi => kernel_rfl)
    exact ⟨_, _, _, rfl, bent_c (by omega), (((((S3.out).set (by omega)).set (by omega)).set (by omega)).set (by omega)).mono (by omega), gbSetNew (gbSetNew (gbSetNew (gbSetNew (G3.out) (by omega)) (by omega)) (by omega)) (by omega)⟩
  by_cases x2 : x = 2
  · subst x2
    have cF := F2.out
    obtain ⟨zF, pF0, pF1, pF2, fF0, fF1, fF2⟩ := blk3 cF
    have cR := R2.out
    obtain ⟨zR, pR0, pR1, pR2, fR0, fR1, fR2⟩ := blk3 cR
    go_wp2_with fail
    refine (amongP [2, 4, 0, -1, 3] 5 rfl (by omega) _ g ao n cap (M + 100 + 2) _ S2.out (by omega) (HR.out.grown G2.out hz) hn).mono ?_
    rintro e w3 ⟨y, rfl, hy, s3, g3⟩
    have R3 : Hid (heapAt w3 (w.heap.size) = some (.cells #[.int .i64 0, .int .i64 0, .int .i64 0] 25 (0, 0))) := Lib.hid (hpG (R2.out) g3 (by omega))
    have F3 : Hid (heapAt w3 (w1.heap.size) = some (.cells #[.int .i64 a, .int .i64 b, .int .i64 c] 25 (0, 0))) := Lib.hid (hpG (F2.out) g3 (by omega))
    have S3 := Lib.hid s3
    have G3 := Lib.hid (gbTrans (G2.out) g3)
    have hz3 := G3.out.size
    have hgg3 := g3.size
    clear s3 g3
    have szR3 := blk_lt R3.out
    have szF3 := blk_lt F3.out
    clear hy
    clear pF0 pF1 pF2 fF0 fF1 fF2 cF
    clear pR0 pR1 pR2 fR0 fR1 fR2 cR
    have cF := F3.out
    obtain ⟨zF, pF0, pF1, pF2, fF0, fF1, fF2⟩ := blk3 cF
    have cR := R3.out
    obtain ⟨zR, pR0, pR1, pR2, fR0, fR1, fR2⟩ := blk3 cR
    go_wp2_with fail
    apply body_row1 (w.heap.size) 25 Tryd.results59 Tryd.underlying25 rfl rfl rfl; (case q => simp (disch := (first | omega | (simp; done) | (simp; omega))) [*]; try rfl); (case hi => kernel_rfl)
    exact ⟨_, _, _, rfl, bent_small ⟨by omega, by omega⟩, ((((S3.out).set (by omega)).set (by omega)).set (by omega)).mono (by omega), gbSetNew (gbSetNew (gbSetNew (G3.out) (by omega)) (by omega)) (by omega)⟩
  by_cases x3 : x = 3
  · subst x3
    have cF := F2.out
    obtain ⟨zF, pF0, pF1, pF2, fF0, fF1, fF2⟩ := blk3 cF
    have cR := R2.out
    obtain ⟨zR, pR0, pR1, pR2, fR0, fR1, fR2⟩ := blk3 cR
    go_wp2_with fail
    refine (pick_any 9 g ao n cap (M + 100 + 2) _ (S2.out) (by omega) (HR.out.grown (G2.out) hz) hn (by omega)).mono ?_
    rintro e w3 ⟨y1, rfl, yl1, yu1, s3, g3⟩
    have R3 : Hid (heapAt w3 (w.heap.size) = some (.cells #[.int .i64 0, .int .i64 0, .int .i64 0] 25 (0, 0))) := Lib.hid (hpG (R2.out) g3 (by omega))
    have F3 : Hid (heapAt w3 (w1.heap.size) = some (.cells #[.int .i64 a, .int .i64 b, .int .i64 c] 25 (0, 0))) := Lib.hid (hpG (F2.out) g3 (by omega))
    have S3 := Lib.hid s3
    have G3 := Lib.hid (gbTrans (G2.out) g3)
    have hz3 := G3.out.size
    have hgg3 := g3.size
    clear s3 g3
    have szR3 := blk_lt R3.out
    have szF3 := blk_lt F3.out
    clear pF0 pF1 pF2 fF0 fF1 fF2 cF
    clear pR0 pR1 pR2 fR0 fR1 fR2 cR
    have cF := F3.out
    obtain ⟨zF, pF0, pF1, pF2, fF0, fF1, fF2⟩ := blk3 cF
    have cR := R3.out
    obtain ⟨zR, pR0, pR1, pR2, fR0, fR1, fR2⟩ := blk3 cR
    go_wp2_with fail
    refine (pick_any 1000 g ao n cap (M + 100 + 2 + 2) _ ((S3.out).set (by omega)) (by omega) (HR.out.grown (gbSetNew (G3.out) (by omega)) hz) hn (by omega)).mono ?_
    rintro e w4 ⟨y2, rfl, yl2, yu2, s4, g4⟩
    have R4 : Hid (heapAt w4 (w.heap.size) = some (.cells #[.int .i64 0, .int .i64 0, .int .i64 0] 25 (0, 0))) := Lib.hid (hpG ((heapAt_set_other (by omega)).trans (R3.out)) g4 (by omega))
    have F4 : Hid (heapAt w4 (w1.heap.size) = some (.cells #[.int .i64 (y1 + 1), .int .i64 b, .int .i64 c] 25 (0, 0))) := Lib.hid (hpG (by rw [heapAt_set, F3.out]; rfl) g4 (by omega))
    have S4 := Lib.hid s4
    have G4 := Lib.hid (gbTrans (gbSetNew (G3.out) (by omega)) g4)
    have hz4 := G4.out.size
    have hgg4 := g4.size
    clear s4 g4
    have szR4 := blk_lt R4.out
    have szF4 := blk_lt F4.out
    clear pF0 pF1 pF2 fF0 fF1 fF2 cF
    clear pR0 pR1 pR2 fR0 fR1 fR2 cR
    have cF := F4.out
    obtain ⟨zF, pF0, pF1, pF2, fF0, fF1, fF2⟩ := blk3 cF
    have cR := R4.out
    obtain ⟨zR, pR0, pR1, pR2, fR0, fR1, fR2⟩ := blk3 cR
    go_wp2_with fail
    refine (pick_any 9 g ao n cap (M + 100 + 2 + 2 + 2) _ ((S4.out).set (by omega)) (by omega) (HR.out.grown (gbSetNew (G4.out) (by omega)) hz) hn (by omega)).mono ?_
    rintro e w5 ⟨y3, rfl, yl3, yu3, s5, g5⟩
    have R5 : Hid (heapAt w5 (w.heap.size) = some (.cells #[.int .i64 0, .int .i64 0, .int .i64 0] 25 (0, 0))) := Lib.hid (hpG ((heapAt_set_other (by omega)).trans (R4.out)) g5 (by omega))
    have F5 : Hid (heapAt w5 (w1.heap.size) = some (.cells #[.int .i64 (y1 + 1), .int .i64 (9000 + y2), .int .i64 c] 25 (0, 0))) := Lib.hid (hpG (by rw [heapAt_set, F4.out]; rfl) g5 (by omega))
    have S5 := Lib.hid s5
    have G5 := Lib.hid (gbTrans (gbSetNew (G4.out) (by omega)) g5)
    have hz5 := G5.out.size
    have hgg5 := g5.size
    clear s5 g5
    have szR5 := blk_lt R5.out
    have szF5 := blk_lt F5.out
    clear pF0 pF1 pF2 fF0 fF1 fF2 cF
    clear pR0 pR1 pR2 fR0 fR1 fR2 cR
    have cF := F5.out
    obtain ⟨zF, pF0, pF1, pF2, fF0, fF1, fF2⟩ := blk3 cF
    have cR := R5.out
    obtain ⟨zR, pR0, pR1, pR2, fR0, fR1, fR2⟩ := blk3 cR
    go_wp2_with fail
    apply body_row1 (w.heap.size) 25 Tryd.results59 Tryd.underlying25 rfl rfl rfl; (case q => simp (disch := (first | omega | (simp; done) | (simp; omega))) [*]; try rfl); (case hi => kernel_rfl)
    exact ⟨_, _, _, rfl, bent_d (by omega) (by omega) (by omega), (((((S5.out).set (by omega)).set (by omega)).set (by omega)).set (by omega)).mono (by omega), gbSetNew (gbSetNew (gbSetNew (gbSetNew (G5.out) (by omega)) (by omega)) (by omega)) (by omega)⟩
  have cF := F2.out
  obtain ⟨zF, pF0, pF1, pF2, fF0, fF1, fF2⟩ := blk3 cF
  have cR := R2.out
  obtain ⟨zR, pR0, pR1, pR2, fR0, fR1, fR2⟩ := blk3 cR
  have b0 : (x == 0) = false := beq_eq_false_iff_ne.2 x0
  have b1 : (x == 1) = false := beq_eq_false_iff_ne.2 x1
  have b2 : (x == 2) = false := beq_eq_false_iff_ne.2 x2
  have b3 : (x == 3) = false := beq_eq_false_iff_ne.2 x3
  have b4 : (x == 4) = false := beq_eq_false_iff_ne.2 x4
  go_wp2_with fail
  apply body_row1 (w.heap.size) 25 Tryd.results59 Tryd.underlying25 rfl rfl rfl; (case q => simp (disch := (first | omega | (simp; done) | (simp; omega))) [*]; try rfl); (case hi => kernel_rfl)
  exact ⟨_, _, _, rfl, bent_small ⟨ha, hb⟩, ((((S2.out).set (by omega)).set (by omega)).set (by omega)).mono (by omega), gbSetNew (gbSetNew (gbSetNew (G2.out) (by omega)) (by omega)) (by omega)⟩
theorem l12Form_any (g : Nat) (ao : Option Addr) (n cap : Nat) (M : Int) (w : World) (hs : Src w g (.slice ao n cap) M) (hM : M ≤ 600000) (hr : ByteRow w ao n g) (hn : n ≤ 4096) :
    Calls Tryd.prog 38 #[.pointer (some ⟨g, 0, none⟩)] w (RetBent g (.slice ao n cap) (M + 300) w) := by
  have hz := hs.lt
  have S0 := Lib.hid hs
  have HR := Lib.hid hr
  have G0 := Lib.hid (gbRefl w (some g))
  clear hs hr
  go_enter Tryd.func38, Tryd.ntmps38
  go_wp2_with fail
  refine (one_any 8 g ao n cap (M) _ ((S0.out).alloc _) (by omega) (HR.out.grown (gbAlloc (G0.out) _) hz) hn (by omega)).mono ?_
  rintro e w1 ⟨bb, rfl, s1, g1⟩
  have R1 : Hid (heapAt w1 (w.heap.size) = some (.cells #[.int .i64 0, .int .i64 0, .int .i64 0] 25 (0, 0))) := Lib.hid (hpG (heapAt_new _ _) g1 (by omega))
  have S1 := Lib.hid s1
  have G1 := Lib.hid (gbTrans (gbAlloc (G0.out) _) g1)
  have hz1 := G1.out.size
  have hgg1 := g1.size
  clear s1 g1
  have szR1 := blk_lt R1.out
  cases bb
  · skip
    go_wp2_with fail
    refine (pick_any 9 g ao n cap (M + 2) _ (S1.out) (by omega) (HR.out.grown (G1.out) hz) hn (by omega)).mono ?_
    rintro e w2 ⟨a, rfl, al, au, s2, g2⟩
    have R2 : Hid (heapAt w2 (w.heap.size) = some (.cells #[.int .i64 0, .int .i64 0, .int .i64 0] 25 (0, 0))) := Lib.hid (hpG (R1.out) g2 (by omega))
    have S2 := Lib.hid s2
    have G2 := Lib.hid (gbTrans (G1.out) g2)
    have hz2 := G2.out.size
    have hgg2 := g2.size
    clear s2 g2
    have szR2 := blk_lt R2.out
    go_wp2_with fail
    refine (pick_any 7 g ao n cap (M + 2 + 2) _ ((S2.out).alloc _) (by omega) (HR.out.grown (gbAlloc (G2.out) _) hz) hn (by omega)).mono ?_
    rintro e w3 ⟨b, rfl, bl, bu, s3, g3⟩
    have R3 : Hid (heapAt w3 (w.heap.size) = some (.cells #[.int .i64 0, .int .i64 0, .int .i64 0] 25 (0, 0))) := Lib.hid (hpG ((heapAt_old (blk_lt R2.out)).trans R2.out) g3 (by omega))
    have F3 : Hid (heapAt w3 (w2.heap.size) = some (.cells #[.int .i64 (1 + a), .int .i64 0, .int .i64 0] 25 (0, 0))) := Lib.hid (hpG (heapAt_new _ _) g3 (by omega))
    have S3 := Lib.hid s3
    have G3 := Lib.hid (gbTrans (gbAlloc (G2.out) _) g3)
    have hz3 := G3.out.size
    have hgg3 := g3.size
    clear s3 g3
    have szR3 := blk_lt R3.out
    have szF3 := blk_lt F3.out
    have cF := F3.out
    obtain ⟨zF, pF0, pF1, pF2, fF0, fF1, fF2⟩ := blk3 cF
    go_wp2_with fail
    refine (pick_any 12 g ao n cap (M + 2 + 2 + 2) _ ((S3.out).set (by omega)) (by omega) (HR.out.grown (gbSetNew (G3.out) (by omega)) hz) hn (by omega)).mono ?_
    rintro e w4 ⟨c, rfl, cl, cu, s4, g4⟩
    have R4 : Hid (heapAt w4 (w.heap.size) = some (.cells #[.int .i64 0, .int .i64 0, .int .i64 0] 25 (0, 0))) := Lib.hid (hpG ((heapAt_set_other (by omega)).trans (R3.out)) g4 (by omega))
    have F4 : Hid (heapAt w4 (w2.heap.size) = some (.cells #[.int .i64 (1 + a), .int .i64 (b - 3), .int .i64 0] 25 (0, 0))) := Lib.hid (hpG (by rw [heapAt_set, F3.out]; rfl) g4 (by omega))
    have S4 := Lib.hid s4
    have G4 := Lib.hid (gbTrans (gbSetNew (G3.out) (by omega)) g4)
    have hz4 := G4.out.size
    have hgg4 := g4.size
    clear s4 g4
    have szR4 := blk_lt R4.out
    have szF4 := blk_lt F4.out
    clear pF0 pF1 pF2 fF0 fF1 fF2 cF
    have cF := F4.out
    obtain ⟨zF, pF0, pF1, pF2, fF0, fF1, fF2⟩ := blk3 cF
    have hc2 : w2.heap.size ≠ w.heap.size := by omega
    obtain ⟨V, hV⟩ : ∃ V, V = w4.setCell ⟨w2.heap.size, 2, none⟩ (.int .i64 (1 + c)) := ⟨_, rfl⟩
    have FV : heapAt V w2.heap.size = some (.cells #[.int .i64 (1 + a), .int .i64 (b - 3), .int .i64 (1 + c)] 25 (0, 0)) := by rw [hV, heapAt_set, F4.out]; rfl
    have RV : heapAt V w.heap.size = some (.cells #[.int .i64 0, .int .i64 0, .int .i64 0] 25 (0, 0)) := by rw [hV]; exact (heapAt_set_other (by omega)).trans R4.out
    have SV := Lib.hid (show Src V g (.slice ao n cap) _ by rw [hV]; exact S4.out.set (by omega))
    have GV := Lib.hid (show w.grownBy V (some g) by rw [hV]; exact gbSetNew G4.out (by omega))
    have hA : -10000 ≤ 1 + a ∧ 1 + a ≤ 10000 := by omega
    have hB : -10000 ≤ b - 3 ∧ b - 3 ≤ 10000 := by omega
    have hC : -10000 ≤ 1 + c ∧ 1 + c ≤ 10000 := by omega
    have OK := Lib.hid (l11Ok_any (1 + a) (b - 3) (1 + c))
    have DS := Lib.hid (l11Disc_any (1 + a) (b - 3) (1 + c) · hA hB hC)
    generalize hvv : vF (1 + a) (b - 3) (1 + c) = vv at OK
    generalize dF (1 + a) (b - 3) (1 + c) = dd at DS
    clear hvv
    go_wp2_with fail
    rw [← hV]
    clear hV pF0 pF1 pF2 fF0 fF1 fF2 cF
    refine (OK.out _).mono ?_
    rintro e w5 ⟨rfl, b5⟩
    have S5 := Lib.hid (SV.out.below b5 SV.out.lt)
    have G5 := Lib.hid (gbBelow GV.out b5)
    have F5 := blkK FV b5 (blk_lt FV)
    have R5 := blkK RV b5 (blk_lt RV)
    clear FV RV SV GV b5
    have hsz5 := blk_lt F5
    obtain ⟨zF, p1, p2, p3, f1, f2, f3⟩ := blk3 F5
    obtain ⟨zR, r1, r2, r3, e1, e2, e3⟩ := blk3 R5
    cases vv
    · go_wp2_with fail
      apply body_row1 (w.heap.size) 25 Tryd.results38 Tryd.underlying25 rfl rfl rfl; (case q => simp (disch := (first | omega | (simp; done) | (simp; omega))) [*]; try rfl); (case hi => kernel_rfl)
      exact ⟨2, 1, 3, rfl, bent_small ⟨by omega, by omega⟩, (((S5.out.set (by omega)).set (by omega)).set (by omega)).mono (by omega), gbSetNew (gbSetNew (gbSetNew G5.out (by omega)) (by omega)) (by omega)⟩
    · go_wp2_with fail
      refine (DS.out _).mono ?_
      rintro e w6 ⟨rfl, b6⟩
      have S6 := Lib.hid (S5.out.below b6 S5.out.lt)
      have G6 := Lib.hid (gbBelow G5.out b6)
      have F6 := blkK F5 b6 (blk_lt F5)
      have R6 := blkK R5 b6 (blk_lt R5)
      have hsz6 := blk_lt F6
      clear b6 p1 p2 p3 f1 f2 f3 r1 r2 r3 e1 e2 e3
      obtain ⟨zF6, p1, p2, p3, f1, f2, f3⟩ := blk3 F6
      obtain ⟨zR6, r1, r2, r3, e1, e2, e3⟩ := blk3 R6
      by_cases hdd : dd > 0
      · go_wp2_with fail
        apply body_row1 (w.heap.size) 25 Tryd.results38 Tryd.underlying25 rfl rfl rfl; (case q => simp (disch := (first | omega | (simp; done) | (simp; omega))) [*]; try rfl); (case hi => kernel_rfl)
        exact ⟨2, 1, 3, rfl, bent_small ⟨by omega, by omega⟩, (((S6.out.set (by omega)).set (by omega)).set (by omega)).mono (by omega), gbSetNew (gbSetNew (gbSetNew G6.out (by omega)) (by omega)) (by omega)⟩
      · have hdb : decide (dd > 0) = false := decide_eq_false hdd
        go_wp2_with fail
        apply body_row1 (w.heap.size) 25 Tryd.results38 Tryd.underlying25 rfl rfl rfl; (case q => simp (disch := (first | omega | (simp; done) | (simp; omega))) [*]; try rfl); (case hi => kernel_rfl)
        exact ⟨_, _, _, rfl, bent_small ⟨by omega, by omega⟩, (((S6.out.set (by omega)).set (by omega)).set (by omega)).mono (by omega), gbSetNew (gbSetNew (gbSetNew G6.out (by omega)) (by omega)) (by omega)⟩
  · skip
    go_wp2_with fail
    refine (l11Bent_any g ao n cap (M + 2) _ (S1.out) (by omega) (HR.out.grown (G1.out) hz) hn).mono ?_
    rintro e w2 ⟨a, b, c, rfl, hp, s2, g2⟩
    have R2 : Hid (heapAt w2 (w.heap.size) = some (.cells #[.int .i64 0, .int .i64 0, .int .i64 0] 25 (0, 0))) := Lib.hid (hpG (R1.out) g2 (by omega))
    have S2 := Lib.hid s2
    have G2 := Lib.hid (gbTrans (G1.out) g2)
    have hz2 := G2.out.size
    have hgg2 := g2.size
    clear s2 g2
    have szR2 := blk_lt R2.out
    have HP := Lib.hid hp
    clear hp
    have cR := R2.out
    obtain ⟨zR, pR0, pR1, pR2, fR0, fR1, fR2⟩ := blk3 cR
    go_wp2_with fail
    apply body_row1 (w.heap.size) 25 Tryd.results38 Tryd.underlying25 rfl rfl rfl; (case q => simp (disch := (first | omega | (simp; done) | (simp; omega))) [*]; try rfl); (case hi => kernel_rfl)
    exact ⟨_, _, _, rfl, HP.out, ((((S2.out).set (by omega)).set (by omega)).set (by omega)).mono (by omega), gbSetNew (gbSetNew (gbSetNew (G2.out) (by omega)) (by omega)) (by omega)⟩
end Go.Proofs.YtodbmnbahldabaaDoor
