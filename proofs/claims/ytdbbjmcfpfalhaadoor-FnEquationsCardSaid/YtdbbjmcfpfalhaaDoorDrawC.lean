/- More draws of equations. -/
import Derived.Test.YtdbbjmcfpfalhaaDoorDrawB
namespace Go.Proofs.YtdbbjmcfpfalhaaDoor
open Go.ChangeShapes Go.WideShapes Go.ChangeAt Go.RowKit
set_option linter.unusedVariables false
set_option maxHeartbeats 8000000
set_option maxRecDepth 20000
theorem body_row22 {P : Program} {fn : Func} {R : Ending → World → Prop} {a : Act} {w : World} {p q u v : Tmp} {ty : TypeId} {d : TypeDesc} {cs ds : Array Value} (g h : Nat) (t : TypeId) (hh : fn.results = #[.tmp u, .tmp v, .cell p ty, .cell q ty])
    (hu : P.underlying ty = some d) (hd : (match d with | .struct _ | .array _ _ => true | _ => false) = true) (hdf : a.defers = []) (hp : a.tmps.getD p undef = .pointer (some ⟨g, 0, none⟩)) (hq : a.tmps.getD q undef = .pointer (some ⟨h, 0, none⟩))
    (q1 : heapAt w g = some (.cells cs t (0, 0))) (q2 : heapAt w h = some (.cells ds t (0, 0))) (hi : (P.info? ty).map (·.size) = some cs.size) (hj : (P.info? ty).map (·.size) = some ds.size) (hR : R (.returned (.tuple #[a.tmps.getD u undef, a.tmps.getD v undef, .agg cs, .agg ds])) w) : bodyPost P fn R .ret a w := by
  refine bodyPost_ret ?_ hdf hR
  have hp' : a.tmps[p]?.getD undef = .pointer (some ⟨g, 0, none⟩) := by simpa using hp
  have hq' : a.tmps[q]?.getD undef = .pointer (some ⟨h, 0, none⟩) := by simpa using hq
  simp [results, hh, hp', hq', asAddr, run_loadVar_row w g t ty cs (0, 0) d q1 hu hd hi, run_loadVar_row w h t ty ds (0, 0) d q2 hu hd hj, Result.andThen]
theorem blkK {w w' : World} {b k : Nat} {cs : Array Value} {t : TypeId} (h : heapAt w b = some (.cells cs t (0, 0))) (hb : Below k w w') (hk : b < k) : heapAt w' b = some (.cells cs t (0, 0)) := (hb.block b hk).trans h
theorem Src.drewAny {w : World} {g : Nat} {v : Value} {M : Int} (h : Src w g v M) : Src w.drew g v M := h
/-- Three numbers. -/
def RetI3 (w : World) (e : Ending) (w' : World) : Prop := ∃ d n m : Int, e = .returned (.tuple #[.int .i64 d, .int .i64 n, .int .i64 m]) ∧ (-9223372036854775808 ≤ d ∧ d ≤ 9223372036854775807) ∧ (-9223372036854775808 ≤ n ∧ n ≤ 9223372036854775807) ∧ Below w.heap.size w w'
/-- Two numbers and two pairs. -/
def RetQQ (w : World) (e : Ending) (w' : World) : Prop := ∃ d n x y u v : Int, e = .returned (.tuple #[.int .i64 d, .int .i64 n, .agg #[.int .i64 x, .int .i64 y], .agg #[.int .i64 u, .int .i64 v]]) ∧ Below w.heap.size w w'
theorem drawSolutionsUpTo_any (ao : Option Addr) (n cap : Nat) (w : World) (hr : ByteRow w ao n w.heap.size) (hn : n ≤ 4096) : Calls Tryd.prog 8 #[.slice ao n cap] w (RetI3 w) := by
  have HR := Lib.hid hr
  clear hr
  go_enter Tryd.func8, Tryd.ntmps8
  go_wp2_with fail
  refine (from_any ao n cap _).mono ?_
  rintro e w1 ⟨rfl, hw1⟩
  have s1 := from_src ao n cap w
  have b1 : Below w.heap.size w (w.alloc (.cells #[.slice ao n cap, .int .i64 0, .int .u64 0] 65)) := (by repeat' (first | (with_reducible exact Below.refl _ _) | (with_reducible assumption) | (with_reducible refine Below.setCell ?_ ?_ _) | (with_reducible refine Below.alloc ?_ ?_ _) | (with_reducible refine Below.drew ?_) | (with_reducible refine below_drewN ?_ _) | (with_reducible refine Below.trans ?_ (Below.mono (by with_reducible assumption) ?_)) | go_size | (simp at *; omega)))
  rw [← hw1] at s1 b1
  clear hw1
  have hz1 := b1.size
  have hz := s1.lt
  have S1 := Lib.hid s1
  have B1 := Lib.hid b1
  clear s1 b1
  go_wp2_with fail
  refine (l10Draw_any w.heap.size ao n cap 0 w1 S1.out (by omega) (HR.out.below B1.out (Nat.le_refl _)) hn).mono ?_
  rintro e w2 ⟨d, m, rfl, s2, g2, hd, hm⟩
  have S2 := Lib.hid s2
  have B2 := Lib.hid (Below.ofGrown B1.out g2 (by omega))
  clear s2 g2
  have hz2 := B2.out.size
  have hzz2 := S2.out.lt
  go_wp2_with fail
  refine (one_any 10 w.heap.size ao n cap (0 + 20) w2 S2.out (by omega) (HR.out.below B2.out (Nat.le_refl _)) hn (by omega)).mono ?_
  rintro e w3 ⟨bb, rfl, s3, g3⟩
  have S3 := Lib.hid s3
  have B3 := Lib.hid (Below.ofGrown B2.out g3 (by omega))
  clear s3 g3
  have hz3 := B3.out.size
  have hzz3 := S3.out.lt
  cases bb
  · go_wp2_with fail
    refine (pick_any 200 w.heap.size ao n cap (0 + 20 + 2) w3 S3.out (by omega) (HR.out.below B3.out (Nat.le_refl _)) hn (by omega)).mono ?_
    rintro e w4 ⟨x, rfl, xl, xu, s4, g4⟩
    have B4 := Lib.hid (Below.ofGrown B3.out g4 (by omega))
    clear s4 g4
    go_wp2_with fail
    go_returns
    exact ⟨_, _, _, rfl, hd, hm, B4.out⟩
  · go_wp2_with fail
    refine (amongL [-1, 0, 10000, 10001] (-1) 10001 (by decide) 4 rfl (by omega) _ w.heap.size ao n cap (0 + 20 + 2) w3 S3.out (by omega) (HR.out.below B3.out (Nat.le_refl _)) hn).mono ?_
    rintro e w4 ⟨x, rfl, xl, xu, s4, g4⟩
    have B4 := Lib.hid (Below.ofGrown B3.out g4 (by omega))
    clear s4 g4
    go_wp2_with fail
    go_returns
    exact ⟨_, _, _, rfl, hd, hm, B4.out⟩
theorem drawIsSolution_any (ao : Option Addr) (n cap : Nat) (w : World) (hr : ByteRow w ao n w.heap.size) (hn : n ≤ 4096) : Calls Tryd.prog 18 #[.slice ao n cap] w (RetQ w) := by
  have HR := Lib.hid hr
  clear hr
  have b0 : Below w.heap.size w (w.alloc (.cells #[.int .i64 0, .int .i64 0] 32)) := (by repeat' (first | (with_reducible exact Below.refl _ _) | (with_reducible assumption) | (with_reducible refine Below.setCell ?_ ?_ _) | (with_reducible refine Below.alloc ?_ ?_ _) | (with_reducible refine Below.drew ?_) | (with_reducible refine below_drewN ?_ _) | (with_reducible refine Below.trans ?_ (Below.mono (by with_reducible assumption) ?_)) | go_size | (simp at *; omega)))
  have e1 : (w.alloc (.cells #[.int .i64 0, .int .i64 0] 32)).heap.size = w.heap.size + 1 := World.size_alloc _ _
  have O1 := Lib.hid (l10One_any ao n cap (w.alloc (.cells #[.int .i64 0, .int .i64 0] 32)) ((HR.out.below b0 (Nat.le_refl _)).mono (by omega)) hn)
  clear b0 e1
  go_enter Tryd.func18, Tryd.ntmps18
  go_wp2_with fail
  refine O1.out.mono ?_
  rintro e w1 ⟨d, m, x, y, rfl, hb1⟩
  have r1 : heapAt w1 w.heap.size = some (.cells #[.int .i64 0, .int .i64 0] 32 (0, 0)) := (hb1.block _ (by simp)).trans (heapAt_new w _)
  obtain ⟨zR, q1, q2, q3, q4⟩ := blk2 r1
  go_wp2_with fail
  apply body_row21 (w.heap.size) 32 Tryd.results18 Tryd.underlying32 rfl rfl rfl
  case q => simp [*]; try rfl
  case hi => kernel_rfl
  exact ⟨_, _, _, _, rfl, (by repeat' (first | (with_reducible exact Below.refl _ _) | (with_reducible assumption) | (with_reducible refine Below.setCell ?_ ?_ _) | (with_reducible refine Below.alloc ?_ ?_ _) | (with_reducible refine Below.drew ?_) | (with_reducible refine below_drewN ?_ _) | (with_reducible refine Below.trans ?_ (Below.mono (by with_reducible assumption) ?_)) | go_size | (simp at *; omega)))⟩
theorem drawSameClass_any (ao : Option Addr) (n cap : Nat) (w : World) (hr : ByteRow w ao n w.heap.size) (hn : n ≤ 4096) : Calls Tryd.prog 15 #[.slice ao n cap] w (RetQQ w) := by
  have HR := Lib.hid hr
  clear hr
  obtain ⟨V, hV⟩ : ∃ V, V = (w.alloc (.cells #[.int .i64 0, .int .i64 0] 32)).alloc (.cells #[.int .i64 0, .int .i64 0] 32) := ⟨_, rfl⟩
  have bV : Below w.heap.size w V := by rw [hV]; exact (by repeat' (first | (with_reducible exact Below.refl _ _) | (with_reducible assumption) | (with_reducible refine Below.setCell ?_ ?_ _) | (with_reducible refine Below.alloc ?_ ?_ _) | (with_reducible refine Below.drew ?_) | (with_reducible refine below_drewN ?_ _) | (with_reducible refine Below.trans ?_ (Below.mono (by with_reducible assumption) ?_)) | go_size | (simp at *; omega)))
  have rV : heapAt V w.heap.size = some (.cells #[.int .i64 0, .int .i64 0] 32 (0, 0)) := by rw [hV]; exact (heapAt_old (by simp)).trans (heapAt_new w _)
  have qV : heapAt V (w.heap.size + 1) = some (.cells #[.int .i64 0, .int .i64 0] 32 (0, 0)) := by rw [hV]; exact heapAt_new2 w _ _
  have zV : V.heap.size = w.heap.size + 1 + 1 := by rw [hV]; simp
  have HV := Lib.hid hV
  clear hV
  go_enter Tryd.func15, Tryd.ntmps15
  go_wp2_with fail
  rw [← HV.out]
  refine (from_any ao n cap _).mono ?_
  rintro e w1 ⟨rfl, hw1⟩
  have s1 := from_src ao n cap V
  have b1 : Below V.heap.size V (V.alloc (.cells #[.slice ao n cap, .int .i64 0, .int .u64 0] 65)) := (by repeat' (first | (with_reducible exact Below.refl _ _) | (with_reducible assumption) | (with_reducible refine Below.setCell ?_ ?_ _) | (with_reducible refine Below.alloc ?_ ?_ _) | (with_reducible refine Below.drew ?_) | (with_reducible refine below_drewN ?_ _) | (with_reducible refine Below.trans ?_ (Below.mono (by with_reducible assumption) ?_)) | go_size | (simp at *; omega)))
  rw [← hw1] at s1 b1
  clear hw1
  rw [zV] at s1 ⊢
  have hz1 := b1.size
  have hzz1 := s1.lt
  have S1 := Lib.hid s1
  have B1 := Lib.hid (bV.trans (b1.mono bV.size))
  have R1 := Lib.hid (blkK rV b1 (blk_lt rV))
  have Q1 := Lib.hid (blkK qV b1 (blk_lt qV))
  clear s1 b1 bV rV qV zV
  go_wp2_with fail
  refine (l10Draw_any (w.heap.size + 1 + 1) ao n cap 0 w1 S1.out (by omega) ((HR.out.below B1.out (Nat.le_refl _)).mono (by omega)) hn).mono ?_
  rintro e w2 ⟨d, m, rfl, s2, g2, -⟩
  have S2 := Lib.hid s2
  have B2 := Lib.hid (Below.ofGrown B1.out g2 (by omega))
  have R2 := Lib.hid (hpG R1.out g2 (by omega))
  have Q2 := Lib.hid (hpG Q1.out g2 (by omega))
  clear s2 g2
  have hz2 := B2.out.size
  have hzz2 := S2.out.lt
  go_wp2_with fail
  refine (l10Pair_any d m (w.heap.size + 1 + 1) ao n cap (0 + 20) w2 S2.out (by omega) ((HR.out.below B2.out (Nat.le_refl _)).mono (by omega)) hn).mono ?_
  rintro e w3 ⟨x, y, rfl, s3, g3⟩
  have S3 := Lib.hid s3
  have B3 := Lib.hid (Below.ofGrown B2.out g3 (by omega))
  have R3 := Lib.hid (hpG R2.out g3 (by omega))
  have Q3 := Lib.hid (hpG Q2.out g3 (by omega))
  clear s3 g3
  have hz3 := B3.out.size
  have hzz3 := S3.out.lt
  go_wp2_with fail
  obtain ⟨U, hU⟩ : ∃ U, U = w3.alloc (.cells #[.int .i64 x, .int .i64 y] 32) := ⟨_, rfl⟩
  have bU : Below w3.heap.size w3 U := by rw [hU]; exact (by repeat' (first | (with_reducible exact Below.refl _ _) | (with_reducible assumption) | (with_reducible refine Below.setCell ?_ ?_ _) | (with_reducible refine Below.alloc ?_ ?_ _) | (with_reducible refine Below.drew ?_) | (with_reducible refine below_drewN ?_ _) | (with_reducible refine Below.trans ?_ (Below.mono (by with_reducible assumption) ?_)) | go_size | (simp at *; omega)))
  have aU : heapAt U w3.heap.size = some (.cells #[.int .i64 x, .int .i64 y] 32 (0, 0)) := by rw [hU]; exact heapAt_new _ _
  have zU : U.heap.size = w3.heap.size + 1 := by rw [hU]; simp
  rw [← hU]
  clear hU
  have SU := Lib.hid (S3.out.below bU hzz3)
  have BU := Lib.hid (B3.out.trans (bU.mono hz3))
  have rU := blkK R3.out bU (blk_lt R3.out)
  have qU := blkK Q3.out bU (blk_lt Q3.out)
  clear bU
  obtain ⟨za, a1, a2, a3, a4⟩ := blk2 aU
  obtain ⟨zr, r1, r2, r3, r4⟩ := blk2 rU
  obtain ⟨zq, q1, q2, q3, q4⟩ := blk2 qU
  have n1 : w3.heap.size ≠ w.heap.size := by omega
  have n2 : w3.heap.size ≠ w.heap.size + 1 := by omega
  have n3 : w.heap.size + 1 ≠ w.heap.size := by omega
  have LP := Lib.hid (fun W s b => l10Pair_any d m (w.heap.size + 1 + 1) ao n cap (0 + 20 + 20) W s (by omega) ((HR.out.below b (Nat.le_refl _)).mono (by omega)) hn)
  go_region_with (go_at_call 38; refine (LP.out _ SU.out.drewAny BU.out.drew).mono ?_; rintro e w4 ⟨u, v, rfl, s4, g4⟩; have ga := hpG (w := U.drew) aU g4 (by omega); have gr := hpG (w := U.drew) rU g4 (by omega); have gq := hpG (w := U.drew) qU g4 (by omega); have B4 := Lib.hid (Below.ofGrown BU.out.drew g4 (by omega)); clear a1 a2 a3 a4 r1 r2 r3 r4 q1 q2 q3 q4; obtain ⟨za4, a1, a2, a3, a4⟩ := blk2 ga; obtain ⟨zr4, r1, r2, r3, r4⟩ := blk2 gr; obtain ⟨zq4, q1, q2, q3, q4⟩ := blk2 gq)
  all_goals
    go_wp2_with fail
    have b4 := B4.out
    apply body_row22 (w.heap.size) (w.heap.size + 1) 32 Tryd.results15 Tryd.underlying32 rfl rfl rfl rfl
    case q1 => simp (disch := (first | omega | (simp; done) | (simp; omega))) [*]; try rfl
    case q2 => simp (disch := (first | omega | (simp; done) | (simp; omega))) [*]; try rfl
    case hi => kernel_rfl
    case hj => kernel_rfl
    exact ⟨_, _, _, _, _, _, rfl, (by repeat' (first | (with_reducible exact Below.refl _ _) | (with_reducible assumption) | (with_reducible refine Below.setCell ?_ ?_ _) | (with_reducible refine Below.alloc ?_ ?_ _) | (with_reducible refine Below.drew ?_) | (with_reducible refine below_drewN ?_ _) | (with_reducible refine Below.trans ?_ (Below.mono (by with_reducible assumption) ?_)) | go_size | (simp at *; omega)))⟩
end Go.Proofs.YtdbbjmcfpfalhaaDoor
