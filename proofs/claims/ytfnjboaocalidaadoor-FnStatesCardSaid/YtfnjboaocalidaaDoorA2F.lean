/- Draws of fractions. -/
import Derived.Test.YtfnjboaocalidaaDoorSrcB
import Derived.Test.YtfnjboaocalidaaDoorEmP
namespace Go.Proofs.YtfnjboaocalidaaDoor
open Go.ChangeShapes Go.WideShapes Go.ChangeAt Go.RowKit
set_option linter.unusedVariables false
set_option maxHeartbeats 8000000
set_option maxRecDepth 20000
/-- A small plain fraction. -/
def SmQ (n m : Int) : Prop := (-300 ≤ n ∧ n ≤ 300) ∧ m ≤ 300 ∧ vQ n m = true
def RetFr (g : Nat) (v : Value) (M : Int) (w : World) (e : Ending) (w' : World) : Prop :=
  ∃ n m : Int, e = .returned (.agg #[.int .i64 n, .int .i64 m]) ∧ SmQ n m ∧ Src w' g v M ∧ w.grownBy w' (some g)
theorem smQ_low {a b : Int} (hb : 1 ≤ b ∧ b ≤ 300) (ha : -300 ≤ a ∧ a ≤ 300) : SmQ (lowN a b) (lowD a b) := by
  have h1 := plainQ_ok (a := a) (b := b) (by omega) (by omega) (by omega)
  have h2 := low_le (a := a) (b := b) (by omega)
  have h3 := (low_of (a := a) (b := b) (by omega)).pos
  obtain ⟨l1, l2⟩ := h2
  unfold ab at l1 l2
  exact ⟨by omega, by omega, h1.1⟩
theorem make_low (a b : Int) (w : World) (ha : -9000000000000000000 ≤ a ∧ a ≤ 9000000000000000000) (hb : 0 < b) (hb' : b ≤ 9000000000000000000) :
    Calls Tryd.prog 42 #[.int .i64 a, .int .i64 b] w fun e w' => e = .returned (.agg #[.int .i64 (lowN a b), .int .i64 (lowD a b)]) ∧ Below w.heap.size w w' := by
  have h := l02Make_any a b w ha hb hb'
  have e1 : lowN a b = a / gI a b := by unfold lowN; rw [if_neg (by omega)]
  have e2 : lowD a b = b / gI a b := by unfold lowD; rw [if_neg (by omega)]
  rw [e1, e2]
  exact h
theorem l02Draw_any (g : Nat) (ao : Option Addr) (n cap : Nat) (M : Int) (w : World) (hs : Src w g (.slice ao n cap) M) (hM : M ≤ 800000) (hr : ByteRow w ao n g) (hn : n ≤ 4096) :
    Calls Tryd.prog 26 #[.pointer (some ⟨g, 0, none⟩), .int .i64 300] w (RetFr g (.slice ao n cap) (M + 20) w) := by
  have hz := hs.lt
  have S0 := Lib.hid hs
  have HR := Lib.hid hr
  have G0 := Lib.hid (gbRefl w (some g))
  clear hs hr
  go_enter Tryd.func26, Tryd.ntmps26
  go_wp2_with fail
  refine (pick_any 601 g ao n cap M _ (S0.out.alloc _) (by omega) (HR.out.grown (gbAlloc G0.out _) hz) hn (by omega)).mono ?_
  rintro e w1 ⟨x, rfl, xl, xu, s1, g1⟩
  have S1 := Lib.hid s1
  have G1 := Lib.hid (gbTrans (gbAlloc G0.out _) g1)
  have R1 := Lib.hid (hpG (heapAt_new w (.cells #[.int .i64 0, .int .i64 0] 32)) g1 (by omega))
  clear s1 g1
  go_wp2_with fail
  refine (one_any 2 g ao n cap (M + 2) _ S1.out (by omega) (HR.out.grown G1.out hz) hn (by omega)).mono ?_
  rintro e w2 ⟨bb, rfl, s2, g2⟩
  have S2 := Lib.hid s2
  have G2 := Lib.hid (gbTrans G1.out g2)
  have R2 := Lib.hid (hpG R1.out g2 (by omega))
  clear s2 g2
  cases bb
  · go_wp2_with fail
    refine (pick_any 300 g ao n cap (M + 2 + 2) _ S2.out (by omega) (HR.out.grown G2.out hz) hn (by omega)).mono ?_
    rintro e w3 ⟨y, rfl, yl, yu, s3, g3⟩
    have S3 := Lib.hid s3
    have G3 := Lib.hid (gbTrans G2.out g3)
    have r3 := hpG R2.out g3 (by omega)
    clear s3 g3
    have hsm := Lib.hid (smQ_low (a := x - 300) (b := 1 + y) (by omega) (by omega))
    have MK := Lib.hid (make_low (x - 300) (1 + y) · (by omega) (by omega) (by omega))
    generalize lowN (x - 300) (1 + y) = N at *
    generalize lowD (x - 300) (1 + y) = D at *
    have hz3 := G3.out.size
    go_wp2_with fail
    refine (MK.out _).mono ?_
    rintro e w4 ⟨rfl, b4⟩
    have r4 := blkK r3 b4 (blk_lt r3)
    have S4 := S3.out.below b4 S3.out.lt
    have G4 := gbBelow G3.out b4
    clear b4 r3
    obtain ⟨zR, r1, r2, r5, r6⟩ := blk2 r4
    go_wp2_with fail
    apply body_row1 (w.heap.size) 32 Tryd.results26 Tryd.underlying32 rfl rfl rfl; (case q => simp (disch := (first | omega | (simp; done) | (simp; omega))) [*]; try rfl); (case hi => kernel_rfl)
    exact ⟨_, _, rfl, hsm.out, ((S4.set (by omega)).set (by omega)).mono (by omega), gbSetNew (gbSetNew G4 (by omega)) (by omega)⟩
  · go_wp2_with fail
    refine (pick_any 301 g ao n cap (M + 2 + 2) _ S2.out (by omega) (HR.out.grown G2.out hz) hn (by omega)).mono ?_
    rintro e w3 ⟨x2, rfl, x2l, x2u, s3, g3⟩
    have S3 := Lib.hid s3
    have G3 := Lib.hid (gbTrans G2.out g3)
    have R3 := Lib.hid (hpG R2.out g3 (by omega))
    clear s3 g3
    go_wp2_with fail
    refine (pick_any 300 g ao n cap (M + 2 + 2 + 2) _ S3.out (by omega) (HR.out.grown G3.out hz) hn (by omega)).mono ?_
    rintro e w4 ⟨y, rfl, yl, yu, s4, g4⟩
    have S4 := Lib.hid s4
    have G4 := Lib.hid (gbTrans G3.out g4)
    have r4 := hpG R3.out g4 (by omega)
    clear s4 g4
    have hsm := Lib.hid (smQ_low (a := x2) (b := 1 + y) (by omega) (by omega))
    have MK := Lib.hid (make_low x2 (1 + y) · (by omega) (by omega) (by omega))
    generalize lowN x2 (1 + y) = N at *
    generalize lowD x2 (1 + y) = D at *
    have hz4 := G4.out.size
    go_wp2_with fail
    refine (MK.out _).mono ?_
    rintro e w5 ⟨rfl, b5⟩
    have r5 := blkK r4 b5 (blk_lt r4)
    have S5 := S4.out.below b5 S4.out.lt
    have G5 := gbBelow G4.out b5
    clear b5 r4
    obtain ⟨zR, r1, r2, r6, r7⟩ := blk2 r5
    go_wp2_with fail
    apply body_row1 (w.heap.size) 32 Tryd.results26 Tryd.underlying32 rfl rfl rfl; (case q => simp (disch := (first | omega | (simp; done) | (simp; omega))) [*]; try rfl); (case hi => kernel_rfl)
    exact ⟨_, _, rfl, hsm.out, ((S5.set (by omega)).set (by omega)).mono (by omega), gbSetNew (gbSetNew G5 (by omega)) (by omega)⟩
theorem body_row3s {P : Program} {fn : Func} {R : Ending → World → Prop} {a : Act} {w : World} {p q r : Tmp} {ty : TypeId} {d : TypeDesc} {cs ds es : Array Value} (g h k : Nat) (t : TypeId) (hh : fn.results = #[.cell p ty, .cell q ty, .cell r ty])
    (hu : P.underlying ty = some d) (hd : (match d with | .struct _ | .array _ _ => true | _ => false) = true) (hdf : a.defers = []) (hp : a.tmps.getD p undef = .pointer (some ⟨g, 0, none⟩)) (hq : a.tmps.getD q undef = .pointer (some ⟨h, 0, none⟩)) (hr : a.tmps.getD r undef = .pointer (some ⟨k, 0, none⟩))
    (q1 : heapAt w g = some (.cells cs t (0, 0))) (q2 : heapAt w h = some (.cells ds t (0, 0))) (q3 : heapAt w k = some (.cells es t (0, 0))) (hi : (P.info? ty).map (·.size) = some cs.size) (hj : (P.info? ty).map (·.size) = some ds.size) (hk : (P.info? ty).map (·.size) = some es.size)
    (hR : R (.returned (.tuple #[.agg cs, .agg ds, .agg es])) w) : bodyPost P fn R .ret a w := by
  refine bodyPost_ret ?_ hdf hR
  have hp' : a.tmps[p]?.getD undef = .pointer (some ⟨g, 0, none⟩) := by simpa using hp
  have hq' : a.tmps[q]?.getD undef = .pointer (some ⟨h, 0, none⟩) := by simpa using hq
  have hr' : a.tmps[r]?.getD undef = .pointer (some ⟨k, 0, none⟩) := by simpa using hr
  simp [results, hh, hp', hq', hr', asAddr, run_loadVar_row w g t ty cs (0, 0) d q1 hu hd hi, run_loadVar_row w h t ty ds (0, 0) d q2 hu hd hj, run_loadVar_row w k t ty es (0, 0) d q3 hu hd hk, Result.andThen]
/-- Three fractions, of which the first is small and plain. -/
def RetF3 (w : World) (e : Ending) (w' : World) : Prop := ∃ n m a b c d : Int, e = .returned (.tuple #[.agg #[.int .i64 n, .int .i64 m], .agg #[.int .i64 a, .int .i64 b], .agg #[.int .i64 c, .int .i64 d]]) ∧ SmQ n m ∧ Below w.heap.size w w'
theorem a2Fractions_any (ao : Option Addr) (n cap : Nat) (w : World) (hr : ByteRow w ao n w.heap.size) (hn : n ≤ 4096) : Calls Tryd.prog 10 #[.slice ao n cap] w (RetF3 w) := by
  have HR := Lib.hid hr
  clear hr
  obtain ⟨V, hV⟩ : ∃ V, V = ((w.alloc (.cells #[.int .i64 0, .int .i64 0] 32)).alloc (.cells #[.int .i64 0, .int .i64 0] 32)).alloc (.cells #[.int .i64 0, .int .i64 0] 32) := ⟨_, rfl⟩
  have bV : Below w.heap.size w V := by rw [hV]; exact (by repeat' (first | (with_reducible exact Below.refl _ _) | (with_reducible assumption) | (with_reducible refine Below.setCell ?_ ?_ _) | (with_reducible refine Below.alloc ?_ ?_ _) | (with_reducible refine Below.drew ?_) | (with_reducible refine below_drewN ?_ _) | (with_reducible refine Below.trans ?_ (Below.mono (by with_reducible assumption) ?_)) | go_size | (simp at *; omega)))
  have rV : heapAt V w.heap.size = some (.cells #[.int .i64 0, .int .i64 0] 32 (0, 0)) := by rw [hV]; exact ((heapAt_old (by rw [World.size_alloc, World.size_alloc]; omega)).trans (heapAt_old (by rw [World.size_alloc]; omega))).trans (heapAt_new w _)
  have qV : heapAt V (w.heap.size + 1) = some (.cells #[.int .i64 0, .int .i64 0] 32 (0, 0)) := by rw [hV]; exact (heapAt_old (by rw [World.size_alloc, World.size_alloc]; omega)).trans (heapAt_new2 w _ _)
  have tV : heapAt V (w.heap.size + 1 + 1) = some (.cells #[.int .i64 0, .int .i64 0] 32 (0, 0)) := by rw [hV]; exact heapAt_new3 w _ _ _
  have zV : V.heap.size = w.heap.size + 1 + 1 + 1 := by rw [hV]; simp
  have HV := Lib.hid hV
  clear hV
  go_enter Tryd.func10, Tryd.ntmps10
  go_wp2_with fail
  rw [← HV.out]
  refine (from_any ao n cap _).mono ?_
  rintro e w1 ⟨rfl, hw1⟩
  have s1 := from_src ao n cap V
  have b1 : Below V.heap.size V (V.alloc (.cells #[.slice ao n cap, .int .i64 0, .int .u64 0] 59)) := (by repeat' (first | (with_reducible exact Below.refl _ _) | (with_reducible assumption) | (with_reducible refine Below.setCell ?_ ?_ _) | (with_reducible refine Below.alloc ?_ ?_ _) | (with_reducible refine Below.drew ?_) | (with_reducible refine below_drewN ?_ _) | (with_reducible refine Below.trans ?_ (Below.mono (by with_reducible assumption) ?_)) | go_size | (simp at *; omega)))
  rw [← hw1] at s1 b1
  clear hw1
  rw [zV] at s1 ⊢
  have hz1 := b1.size
  have hzz1 := s1.lt
  have S1 := Lib.hid s1
  have B1 := Lib.hid (bV.trans (b1.mono bV.size))
  have R1 := Lib.hid (blkK rV b1 (blk_lt rV))
  have Q1 := Lib.hid (blkK qV b1 (blk_lt qV))
  have T1 := Lib.hid (blkK tV b1 (blk_lt tV))
  clear s1 b1 bV rV qV tV zV
  go_wp2_with fail
  refine (l02Draw_any (w.heap.size + 1 + 1 + 1) ao n cap 0 w1 S1.out (by omega) ((HR.out.below B1.out (Nat.le_refl _)).mono (by omega)) hn).mono ?_
  rintro e w2 ⟨x, y, rfl, hsm, s2, g2⟩
  have HS := Lib.hid hsm
  have S2 := Lib.hid s2
  have B2 := Lib.hid (Below.ofGrown B1.out g2 (by omega))
  have R2 := Lib.hid (hpG R1.out g2 (by omega))
  have Q2 := Lib.hid (hpG Q1.out g2 (by omega))
  have T2 := Lib.hid (hpG T1.out g2 (by omega))
  clear s2 g2 hsm
  have hz2 := B2.out.size
  have hzz2 := S2.out.lt
  go_wp2_with fail
  obtain ⟨w3, hW⟩ : ∃ w', w' = w2.alloc (.cells #[.int .i64 x, .int .i64 y] 32) := ⟨_, rfl⟩
  have bW : Below w2.heap.size w2 w3 := by rw [hW]; exact (by repeat' (first | (with_reducible exact Below.refl _ _) | (with_reducible assumption) | (with_reducible refine Below.setCell ?_ ?_ _) | (with_reducible refine Below.alloc ?_ ?_ _) | (with_reducible refine Below.drew ?_) | (with_reducible refine below_drewN ?_ _) | (with_reducible refine Below.trans ?_ (Below.mono (by with_reducible assumption) ?_)) | go_size | (simp at *; omega)))
  have X3 : Hid (heapAt w3 w2.heap.size = some (.cells #[.int .i64 x, .int .i64 y] 32 (0, 0))) := Lib.hid (by rw [hW]; exact heapAt_new _ _)
  rw [← hW]
  clear hW
  have S3 := Lib.hid (S2.out.below bW hzz2)
  have B3 := Lib.hid (B2.out.trans (bW.mono hz2))
  have R3 := Lib.hid (blkK R2.out bW (blk_lt R2.out))
  have Q3 := Lib.hid (blkK Q2.out bW (blk_lt Q2.out))
  have T3 := Lib.hid (blkK T2.out bW (blk_lt T2.out))
  clear bW
  have hz3 := B3.out.size
  have hzz3 := S3.out.lt
  refine (l02Draw_any (w.heap.size + 1 + 1 + 1) ao n cap (0 + 20) w3 S3.out (by omega) ((HR.out.below B3.out (Nat.le_refl _)).mono (by omega)) hn).mono ?_
  rintro e w4 ⟨x2, y2, rfl, -, s4, g4⟩
  have S4 := Lib.hid s4
  have B4 := Lib.hid (Below.ofGrown B3.out g4 (by omega))
  have R4 := Lib.hid (hpG R3.out g4 (by omega))
  have Q4 := Lib.hid (hpG Q3.out g4 (by omega))
  have T4 := Lib.hid (hpG T3.out g4 (by omega))
  have X4 := Lib.hid (hpG X3.out g4 (by omega))
  clear s4 g4
  have hz4 := B4.out.size
  have hzz4 := S4.out.lt
  go_wp2_with fail
  obtain ⟨U, hU⟩ : ∃ U, U = w4.alloc (.cells #[.int .i64 x2, .int .i64 y2] 32) := ⟨_, rfl⟩
  have bU : Below w4.heap.size w4 U := by rw [hU]; exact (by repeat' (first | (with_reducible exact Below.refl _ _) | (with_reducible assumption) | (with_reducible refine Below.setCell ?_ ?_ _) | (with_reducible refine Below.alloc ?_ ?_ _) | (with_reducible refine Below.drew ?_) | (with_reducible refine below_drewN ?_ _) | (with_reducible refine Below.trans ?_ (Below.mono (by with_reducible assumption) ?_)) | go_size | (simp at *; omega)))
  have aU : heapAt U w4.heap.size = some (.cells #[.int .i64 x2, .int .i64 y2] 32 (0, 0)) := by rw [hU]; exact heapAt_new _ _
  rw [← hU]
  clear hU
  have SU := Lib.hid (S4.out.below bU hzz4)
  have BU := Lib.hid (B4.out.trans (bU.mono hz4))
  have rU := blkK R4.out bU (blk_lt R4.out)
  have qU := blkK Q4.out bU (blk_lt Q4.out)
  have tU := blkK T4.out bU (blk_lt T4.out)
  have xU := blkK X4.out bU (blk_lt X4.out)
  clear bU
  have zx := blk_lt X3.out
  have zx4 := blk_lt X4.out
  obtain ⟨za, a1, a2, a3, a4⟩ := blk2 aU
  obtain ⟨zr, r1, r2, r3, r4⟩ := blk2 rU
  obtain ⟨zq, q1, q2, q3, q4⟩ := blk2 qU
  obtain ⟨zt, t1, t2, t3, t4⟩ := blk2 tU
  obtain ⟨zxx, x1', x2', x3', x4'⟩ := blk2 xU
  have n1 : w4.heap.size ≠ w.heap.size := by omega
  have n2 : w4.heap.size ≠ w.heap.size + 1 := by omega
  have n3 : w4.heap.size ≠ w.heap.size + 1 + 1 := by omega
  have n4 : w2.heap.size ≠ w.heap.size := by omega
  have n5 : w2.heap.size ≠ w.heap.size + 1 := by omega
  have n6 : w2.heap.size ≠ w.heap.size + 1 + 1 := by omega
  have LP := Lib.hid (fun W s b => l02Draw_any (w.heap.size + 1 + 1 + 1) ao n cap (0 + 20 + 20) W s (by omega) ((HR.out.below b (Nat.le_refl _)).mono (by omega)) hn)
  go_region_with (go_at_call 26; refine (LP.out _ SU.out.drew BU.out.drew).mono ?_; rintro e w5 ⟨u, v, rfl, -, s5, g5⟩; have ga := hpG (w := U.drew) aU g5 (by omega); have gr := hpG (w := U.drew) rU g5 (by omega); have gq := hpG (w := U.drew) qU g5 (by omega); have gt := hpG (w := U.drew) tU g5 (by omega); have gx := hpG (w := U.drew) xU g5 (by omega); have B5 := Lib.hid (Below.ofGrown BU.out.drew g5 (by omega)); clear a1 a2 a3 a4 r1 r2 r3 r4 q1 q2 q3 q4 t1 t2 t3 t4 x1' x2' x3' x4'; obtain ⟨za5, a1, a2, a3, a4⟩ := blk2 ga; obtain ⟨zr5, r1, r2, r3, r4⟩ := blk2 gr; obtain ⟨zq5, q1, q2, q3, q4⟩ := blk2 gq; obtain ⟨zt5, t1, t2, t3, t4⟩ := blk2 gt; obtain ⟨zx5, x1', x2', x3', x4'⟩ := blk2 gx)
  all_goals
    go_wp2_with fail
    have b5 := B5.out
    apply body_row3s (w.heap.size) (w.heap.size + 1) (w.heap.size + 1 + 1) 32 Tryd.results10 Tryd.underlying32 rfl rfl rfl rfl rfl
    case q1 => simp (disch := (first | omega | (simp; done) | (simp; omega))) [*]; try rfl
    case q2 => simp (disch := (first | omega | (simp; done) | (simp; omega))) [*]; try rfl
    case q3 => simp (disch := (first | omega | (simp; done) | (simp; omega))) [*]; try rfl
    case hi => kernel_rfl
    case hj => kernel_rfl
    case hk => kernel_rfl
    exact ⟨_, _, _, _, _, _, rfl, HS.out, (by repeat' (first | (with_reducible exact Below.refl _ _) | (with_reducible assumption) | (with_reducible refine Below.setCell ?_ ?_ _) | (with_reducible refine Below.alloc ?_ ?_ _) | (with_reducible refine Below.drew ?_) | (with_reducible refine below_drewN ?_ _) | (with_reducible refine Below.trans ?_ (Below.mono (by with_reducible assumption) ?_)) | go_size | (simp at *; omega)))⟩
end Go.Proofs.YtfnjboaocalidaaDoor
