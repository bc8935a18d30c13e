/- The least solution is the first of all: the walk. -/
import Derived.Test.YtdbbjmcfpfalhaaDoorLawK
import Derived.Test.YtdbbjmcfpfalhaaDoorDrawC
import Derived.Test.YtdbbjmcfpfalhaaDoorDesc
import Derived.Test.YtdbbjmcfpfalhaaDoorTxt
namespace Go.Proofs.YtdbbjmcfpfalhaaDoor
open Go.ChangeShapes Go.WideShapes Go.ChangeAt Go.RowKit
set_option linter.unusedVariables false
set_option maxHeartbeats 8000000
set_option maxRecDepth 20000
theorem cells_of {w : World} {g : Nat} {v : Value} (h : w.cell? ⟨g, 0, none⟩ = some v) : ∃ cs t fr, w.heap[g]? = some (.cells cs t fr) := by
  unfold World.cell? at h
  cases hw : w.heap[g]? with
  | none => rw [hw] at h; simp at h
  | some o =>
    cases o with
    | cells cs t fr => exact ⟨cs, t, fr, rfl⟩
    | _ => rw [hw] at h; simp at h
theorem tab_kept {W w : World} (h : Kept W w) (ht : Tab W) : Tab w := by
  unfold Tab Lib.TabIs World.var? at ht ⊢
  cases hgn : Tryd.prog.globalNamed "internal/strconv.uint64pow10" with
  | none => rw [hgn] at ht; simp at ht
  | some g =>
    rw [hgn] at ht
    simp only [Option.bind_some] at ht ⊢
    cases hW : W.heap[g]? with
    | none => rw [hW] at ht; simp at ht
    | some ob =>
      cases ob with
      | cells cs t fr =>
        rw [hW] at ht
        simp only at ht
        have hg : g < W.heap.size := (Array.getElem?_eq_some_iff.1 hW).1
        have hcell : ∀ j, W.cell? ⟨g, j, none⟩ = cs[j]? := fun j => cell_of_row W g j cs t fr hW
        have hcs := Option.some.inj ht
        have h0 : w.cell? ⟨g, 0, none⟩ = some (.int .u64 1) := by
          rw [h.2 g 0 hg, hcell, hcs]
          rfl
        obtain ⟨cs', t', fr', hw⟩ := cells_of h0
        rw [hw]
        simp only
        rw [← ht]
        congr 1
        apply Array.ext_getElem?
        intro j
        rw [← hcell j, ← h.2 g j hg, cell_of_row w g j cs' t' fr' hw]
      | _ => rw [hW] at ht; simp at ht
theorem sLook_of {d n M k : Int} (LK : ∀ w : World, Calls Tryd.prog 35 #[.int .i64 d, .int .i64 n] w fun e w' => e = .returned (.tuple #[.int .i64 M, .int .i64 k]) ∧ Below w.heap.size w w') (w : World) :
    Calls Tryd.prog 14 #[.int .i64 d, .int .i64 n] w fun e w' => e = .returned (.tuple #[.int .i64 M, .int .i64 k]) ∧ Below w.heap.size w w' := by
  have LK' := Lib.hid LK
  clear LK
  go_enter Tryd.func14, Tryd.ntmps14
  go_wp2_with fail; refine (LK'.out _).mono ?_; rintro e w1 ⟨rfl, hb1⟩; obtain ⟨hc1, hf1, -, hB1⟩ := bcell hb1; have hz1 := hb1.size; (try simp at hz1); (try have hk1_0 : w.heap.size < w1.heap.size := by omega); (try have hk1_1 : w.heap.size + 1 < w1.heap.size := by omega); (try have hk1_2 : w.heap.size + 1 + 1 < w1.heap.size := by omega); (try have hk1_3 : w.heap.size + 1 + 1 + 1 < w1.heap.size := by omega); (try have hk1_4 : wr.heap.size < w1.heap.size := by omega); (try have hk1_5 : wr.heap.size + 1 < w1.heap.size := by omega)
  go_wp2_with fail
  go_ret2
  exact ⟨rfl, (by repeat' (first | (with_reducible exact Below.refl _ _) | (with_reducible assumption) | (with_reducible refine Below.setCell ?_ ?_ _) | (with_reducible refine Below.alloc ?_ ?_ _) | (with_reducible refine Below.drew ?_) | (with_reducible refine below_drewN ?_ _) | (with_reducible refine Below.trans ?_ (Below.mono (by with_reducible assumption) ?_)) | go_size | (simp at *; omega)))⟩

theorem suR_zero {d n most : Int} (h : suC d n most = 0) : suR d n most = suF d n (most + 1).toNat := by unfold suR; rw [if_pos h]
theorem suR_nz {d n most : Int} (h : suC d n most ≠ 0) : suR d n most = [] := by unfold suR; rw [if_neg h]
theorem walk_FnEquations (a : Option Addr) (len cap : Nat) (z : List Int) {w : World} (hr : IsRow .u8 w a len cap z) (ht : Tab w) :
    Calls Tryd.prog 4 #[.slice a len cap] w fun e w' => e = .returned (.bool true) ∧ Below w.heap.size w w' := by
  have HR := Lib.hid hr.bytes
  have HT := Lib.hid ht
  clear hr ht
  by_cases hbig : 4096 < len
  · have F6 := Lib.hid (by have h := f6big_any a len cap; rw [decide_eq_true hbig] at h; exact h)
    go_enter Tryd.func4, Tryd.ntmps4
    go_wp2_with (go_at_call 7; refine (F6.out _).mono ?_; rintro e w1 ⟨rfl, rfl⟩)
    go_ret
    exact ⟨rfl, (by repeat' (first | (with_reducible exact Below.refl _ _) | (with_reducible assumption) | (with_reducible refine Below.setCell ?_ ?_ _) | (with_reducible refine Below.alloc ?_ ?_ _) | (with_reducible refine Below.drew ?_) | (with_reducible refine below_drewN ?_ _) | (with_reducible refine Below.trans ?_ (Below.mono (by with_reducible assumption) ?_)) | go_size | (simp at *; omega)))⟩
  · have F6 := Lib.hid (by have h := f6big_any a len cap; rw [decide_eq_false hbig] at h; exact h)
    go_enter Tryd.func4, Tryd.ntmps4
    go_wp2_with (go_at_call 7; refine (F6.out _).mono ?_; rintro e w1 ⟨rfl, rfl⟩)
    go_wp2_with fail
    refine (drawSolutionsUpTo_any a len cap w HR.out (by omega)).mono ?_
    rintro e w1 ⟨d, n, most, rfl, hdw, hnw, b1⟩
    have B1 := Lib.hid b1
    clear b1
    obtain ⟨M, k, x, y, c, LI0, LS0, EI0, ES0, hc0, hc3⟩ := eq_all d n
    have LI := Lib.hid LI0
    have LS := Lib.hid (sLook_of LS0)
    have EI := Lib.hid EI0
    have ES := Lib.hid ES0
    have SI := Lib.hid (iSolutionsUpTo_any d n most)
    have SS := Lib.hid (sSolutionsUpTo_any d n most)
    have HS0 := Lib.hid (fun h => suC_zero (d := d) (n := n) (most := most) h)
    have HS1 := Lib.hid (suR_zero (d := d) (n := n) (most := most))
    have HS2 := Lib.hid (suR_nz (d := d) (n := n) (most := most))
    have HC0 := Lib.hid hc0
    have HC3 := Lib.hid hc3
    have hl := suR_len d n most
    clear LI0 LS0 EI0 ES0 hc0 hc3
    generalize suR d n most = L at *
    generalize suC d n most = bad at *
    go_wp2_with fail
    refine (SI.out _).mono ?_
    intro e w2 hr
    unfold RetL at hr
    obtain ⟨v1, rfl, o2, b2⟩ := hr
    have B2 : Hid (Below w.heap.size w w2) := Lib.hid (B1.out.trans (b2.mono B1.out.size))
    clear b2
    have O2 := Lib.hid o2
    clear o2
    go_wp2_with fail
    refine (SS.out _).mono ?_
    intro e w3 hr
    unfold RetL at hr
    obtain ⟨v2, rfl, o3, b3⟩ := hr
    have O3 := Lib.hid (O2.out.below b3)
    have B3 : Hid (Below w.heap.size w w3) := Lib.hid (B2.out.trans (b3.mono B2.out.size))
    clear b3
    have Q3 := Lib.hid o3
    clear o3
    go_wp2_with fail
    refine (EI.out _).mono ?_
    rintro e w4 ⟨rfl, b4⟩
    have O4 := Lib.hid (O3.out.below b4)
    have Q4 := Lib.hid (Q3.out.below b4)
    have B4 : Hid (Below w.heap.size w w4) := Lib.hid (B3.out.trans (b4.mono B3.out.size))
    clear b4
    go_wp2_with fail
    obtain ⟨w5, hW⟩ : ∃ w', w' = (w4.alloc (.cells #[.int .i64 x, .int .i64 y] 32)) := ⟨_, rfl⟩
    have bW : Below w4.heap.size w4 w5 := by rw [hW]; exact (by repeat' (first | (with_reducible exact Below.refl _ _) | (with_reducible assumption) | (with_reducible refine Below.setCell ?_ ?_ _) | (with_reducible refine Below.alloc ?_ ?_ _) | (with_reducible refine Below.drew ?_) | (with_reducible refine below_drewN ?_ _) | (with_reducible refine Below.trans ?_ (Below.mono (by with_reducible assumption) ?_)) | go_size | (simp at *; omega)))
    have F5 : Hid (heapAt w5 (w4.heap.size) = some (.cells #[.int .i64 x, .int .i64 y] 32 (0, 0))) := Lib.hid (by rw [hW]; exact heapAt_new _ _)
    have O5 := Lib.hid (O4.out.below bW)
    have Q5 := Lib.hid (Q4.out.below bW)
    have B5 : Hid (Below w.heap.size w w5) := Lib.hid (B4.out.trans (bW.mono B4.out.size))
    rw [← hW]
    clear hW bW
    go_wp2_with fail
    refine (ES.out _).mono ?_
    rintro e w6 ⟨rfl, b6⟩
    have F6 : Hid (heapAt w6 (w4.heap.size) = some (.cells #[.int .i64 x, .int .i64 y] 32 (0, 0))) := Lib.hid (blkK F5.out b6 (blk_lt F5.out))
    have O6 := Lib.hid (O5.out.below b6)
    have Q6 := Lib.hid (Q5.out.below b6)
    have B6 : Hid (Below w.heap.size w w6) := Lib.hid (B5.out.trans (b6.mono B5.out.size))
    clear b6
    go_wp2_with fail
    obtain ⟨w7, hW⟩ : ∃ w', w' = (w6.alloc (.cells #[.int .i64 x, .int .i64 y] 32)) := ⟨_, rfl⟩
    have bW : Below w6.heap.size w6 w7 := by rw [hW]; exact (by repeat' (first | (with_reducible exact Below.refl _ _) | (with_reducible assumption) | (with_reducible refine Below.setCell ?_ ?_ _) | (with_reducible refine Below.alloc ?_ ?_ _) | (with_reducible refine Below.drew ?_) | (with_reducible refine below_drewN ?_ _) | (with_reducible refine Below.trans ?_ (Below.mono (by with_reducible assumption) ?_)) | go_size | (simp at *; omega)))
    have G7 : Hid (heapAt w7 (w6.heap.size) = some (.cells #[.int .i64 x, .int .i64 y] 32 (0, 0))) := Lib.hid (by rw [hW]; exact heapAt_new _ _)
    have F7 : Hid (heapAt w7 (w4.heap.size) = some (.cells #[.int .i64 x, .int .i64 y] 32 (0, 0))) := Lib.hid (blkK F6.out bW (blk_lt F6.out))
    have O7 := Lib.hid (O6.out.below bW)
    have Q7 := Lib.hid (Q6.out.below bW)
    have B7 : Hid (Below w.heap.size w w7) := Lib.hid (B6.out.trans (bW.mono B6.out.size))
    rw [← hW]
    clear hW bW
    go_wp2_with fail
    refine (LI.out _).mono ?_
    rintro e w8 ⟨rfl, b8⟩
    have F8 : Hid (heapAt w8 (w4.heap.size) = some (.cells #[.int .i64 x, .int .i64 y] 32 (0, 0))) := Lib.hid (blkK F7.out b8 (blk_lt F7.out))
    have G8 : Hid (heapAt w8 (w6.heap.size) = some (.cells #[.int .i64 x, .int .i64 y] 32 (0, 0))) := Lib.hid (blkK G7.out b8 (blk_lt G7.out))
    have O8 := Lib.hid (O7.out.below b8)
    have Q8 := Lib.hid (Q7.out.below b8)
    have B8 : Hid (Below w.heap.size w w8) := Lib.hid (B7.out.trans (b8.mono B7.out.size))
    clear b8
    go_wp2_with fail
    refine (LS.out _).mono ?_
    rintro e w9 ⟨rfl, b9⟩
    have F9 : Hid (heapAt w9 (w4.heap.size) = some (.cells #[.int .i64 x, .int .i64 y] 32 (0, 0))) := Lib.hid (blkK F8.out b9 (blk_lt F8.out))
    have G9 : Hid (heapAt w9 (w6.heap.size) = some (.cells #[.int .i64 x, .int .i64 y] 32 (0, 0))) := Lib.hid (blkK G8.out b9 (blk_lt G8.out))
    have O9 := Lib.hid (O8.out.below b9)
    have Q9 := Lib.hid (Q8.out.below b9)
    have B9 : Hid (Below w.heap.size w w9) := Lib.hid (B8.out.trans (b9.mono B8.out.size))
    clear b9
    go_wp2_with fail
    refine (drawSameClass_any a len cap _ ((HR.out.below B9.out (Nat.le_refl _)).mono B9.out.size) (by omega)).mono ?_
    rintro e w10 ⟨d2, n2, q1, q2, q3, q4, rfl, b10⟩
    have F10 : Hid (heapAt w10 (w4.heap.size) = some (.cells #[.int .i64 x, .int .i64 y] 32 (0, 0))) := Lib.hid (blkK F9.out b10 (blk_lt F9.out))
    have G10 : Hid (heapAt w10 (w6.heap.size) = some (.cells #[.int .i64 x, .int .i64 y] 32 (0, 0))) := Lib.hid (blkK G9.out b10 (blk_lt G9.out))
    have O10 := Lib.hid (O9.out.below b10)
    have Q10 := Lib.hid (Q9.out.below b10)
    have B10 : Hid (Below w.heap.size w w10) := Lib.hid (B9.out.trans (b10.mono B9.out.size))
    clear b10
    go_wp2_with fail
    obtain ⟨w11, hW⟩ : ∃ w', w' = ((w10.alloc (.cells #[.int .i64 q1, .int .i64 q2] 32)).alloc (.cells #[.int .i64 q3, .int .i64 q4] 32)) := ⟨_, rfl⟩
    have bW : Below w10.heap.size w10 w11 := by rw [hW]; exact (by repeat' (first | (with_reducible exact Below.refl _ _) | (with_reducible assumption) | (with_reducible refine Below.setCell ?_ ?_ _) | (with_reducible refine Below.alloc ?_ ?_ _) | (with_reducible refine Below.drew ?_) | (with_reducible refine below_drewN ?_ _) | (with_reducible refine Below.trans ?_ (Below.mono (by with_reducible assumption) ?_)) | go_size | (simp at *; omega)))
    have U11 : Hid (heapAt w11 (w10.heap.size) = some (.cells #[.int .i64 q1, .int .i64 q2] 32 (0, 0))) := Lib.hid (by rw [hW]; exact (heapAt_old (by simp)).trans (heapAt_new _ _))
    have V11 : Hid (heapAt w11 (w10.heap.size + 1) = some (.cells #[.int .i64 q3, .int .i64 q4] 32 (0, 0))) := Lib.hid (by rw [hW]; exact heapAt_new2 _ _ _)
    have F11 : Hid (heapAt w11 (w4.heap.size) = some (.cells #[.int .i64 x, .int .i64 y] 32 (0, 0))) := Lib.hid (blkK F10.out bW (blk_lt F10.out))
    have G11 : Hid (heapAt w11 (w6.heap.size) = some (.cells #[.int .i64 x, .int .i64 y] 32 (0, 0))) := Lib.hid (blkK G10.out bW (blk_lt G10.out))
    have O11 := Lib.hid (O10.out.below bW)
    have Q11 := Lib.hid (Q10.out.below bW)
    have B11 : Hid (Below w.heap.size w w11) := Lib.hid (B10.out.trans (bW.mono B10.out.size))
    rw [← hW]
    clear hW bW
    have CI := Lib.hid (iSameClass_any d2 n2 q1 q2 q3 q4)
    have CS := Lib.hid (sSameClass_any d2 n2 q1 q2 q3 q4)
    generalize scR d2 n2 q1 q2 q3 q4 = R at *
    obtain ⟨R1, R2⟩ := R
    have cU := U11.out
    obtain ⟨zU, pU1, pU2, pU3, pU4⟩ := blk2 cU
    have cV := V11.out
    obtain ⟨zV, pV1, pV2, pV3, pV4⟩ := blk2 cV
    go_wp2_with fail
    refine (CI.out _).mono ?_
    rintro e w12 ⟨rfl, b12⟩
    have F12 : Hid (heapAt w12 (w4.heap.size) = some (.cells #[.int .i64 x, .int .i64 y] 32 (0, 0))) := Lib.hid (blkK F11.out b12 (blk_lt F11.out))
    have G12 : Hid (heapAt w12 (w6.heap.size) = some (.cells #[.int .i64 x, .int .i64 y] 32 (0, 0))) := Lib.hid (blkK G11.out b12 (blk_lt G11.out))
    have U12 : Hid (heapAt w12 (w10.heap.size) = some (.cells #[.int .i64 q1, .int .i64 q2] 32 (0, 0))) := Lib.hid (blkK U11.out b12 (blk_lt U11.out))
    have V12 : Hid (heapAt w12 (w10.heap.size + 1) = some (.cells #[.int .i64 q3, .int .i64 q4] 32 (0, 0))) := Lib.hid (blkK V11.out b12 (blk_lt V11.out))
    have O12 := Lib.hid (O11.out.below b12)
    have Q12 := Lib.hid (Q11.out.below b12)
    have B12 : Hid (Below w.heap.size w w12) := Lib.hid (B11.out.trans (b12.mono B11.out.size))
    clear b12
    clear pU1 pU2 pU3 pU4 cU
    clear pV1 pV2 pV3 pV4 cV
    have cU := U12.out
    obtain ⟨zU, pU1, pU2, pU3, pU4⟩ := blk2 cU
    have cV := V12.out
    obtain ⟨zV, pV1, pV2, pV3, pV4⟩ := blk2 cV
    go_wp2_with fail
    refine (CS.out _).mono ?_
    rintro e w13 ⟨rfl, b13⟩
    have F13 : Hid (heapAt w13 (w4.heap.size) = some (.cells #[.int .i64 x, .int .i64 y] 32 (0, 0))) := Lib.hid (blkK F12.out b13 (blk_lt F12.out))
    have G13 : Hid (heapAt w13 (w6.heap.size) = some (.cells #[.int .i64 x, .int .i64 y] 32 (0, 0))) := Lib.hid (blkK G12.out b13 (blk_lt G12.out))
    have U13 : Hid (heapAt w13 (w10.heap.size) = some (.cells #[.int .i64 q1, .int .i64 q2] 32 (0, 0))) := Lib.hid (blkK U12.out b13 (blk_lt U12.out))
    have V13 : Hid (heapAt w13 (w10.heap.size + 1) = some (.cells #[.int .i64 q3, .int .i64 q4] 32 (0, 0))) := Lib.hid (blkK V12.out b13 (blk_lt V12.out))
    have O13 := Lib.hid (O12.out.below b13)
    have Q13 := Lib.hid (Q12.out.below b13)
    have B13 : Hid (Below w.heap.size w w13) := Lib.hid (B12.out.trans (b13.mono B12.out.size))
    clear b13
    clear pU1 pU2 pU3 pU4 cU
    clear pV1 pV2 pV3 pV4 cV
    go_wp2_with fail
    refine (drawIsSolution_any a len cap _ ((HR.out.below B13.out (Nat.le_refl _)).mono B13.out.size) (by omega)).mono ?_
    rintro e w14 ⟨d3, n3, x3, y3, rfl, b14⟩
    have F14 : Hid (heapAt w14 (w4.heap.size) = some (.cells #[.int .i64 x, .int .i64 y] 32 (0, 0))) := Lib.hid (blkK F13.out b14 (blk_lt F13.out))
    have G14 : Hid (heapAt w14 (w6.heap.size) = some (.cells #[.int .i64 x, .int .i64 y] 32 (0, 0))) := Lib.hid (blkK G13.out b14 (blk_lt G13.out))
    have U14 : Hid (heapAt w14 (w10.heap.size) = some (.cells #[.int .i64 q1, .int .i64 q2] 32 (0, 0))) := Lib.hid (blkK U13.out b14 (blk_lt U13.out))
    have V14 : Hid (heapAt w14 (w10.heap.size + 1) = some (.cells #[.int .i64 q3, .int .i64 q4] 32 (0, 0))) := Lib.hid (blkK V13.out b14 (blk_lt V13.out))
    have O14 := Lib.hid (O13.out.below b14)
    have Q14 := Lib.hid (Q13.out.below b14)
    have B14 : Hid (Below w.heap.size w w14) := Lib.hid (B13.out.trans (b14.mono B13.out.size))
    clear b14
    go_wp2_with fail
    obtain ⟨w15, hW⟩ : ∃ w', w' = (w14.alloc (.cells #[.int .i64 x3, .int .i64 y3] 32)) := ⟨_, rfl⟩
    have bW : Below w14.heap.size w14 w15 := by rw [hW]; exact (by repeat' (first | (with_reducible exact Below.refl _ _) | (with_reducible assumption) | (with_reducible refine Below.setCell ?_ ?_ _) | (with_reducible refine Below.alloc ?_ ?_ _) | (with_reducible refine Below.drew ?_) | (with_reducible refine below_drewN ?_ _) | (with_reducible refine Below.trans ?_ (Below.mono (by with_reducible assumption) ?_)) | go_size | (simp at *; omega)))
    have W15 : Hid (heapAt w15 (w14.heap.size) = some (.cells #[.int .i64 x3, .int .i64 y3] 32 (0, 0))) := Lib.hid (by rw [hW]; exact heapAt_new _ _)
    have F15 : Hid (heapAt w15 (w4.heap.size) = some (.cells #[.int .i64 x, .int .i64 y] 32 (0, 0))) := Lib.hid (blkK F14.out bW (blk_lt F14.out))
    have G15 : Hid (heapAt w15 (w6.heap.size) = some (.cells #[.int .i64 x, .int .i64 y] 32 (0, 0))) := Lib.hid (blkK G14.out bW (blk_lt G14.out))
    have U15 : Hid (heapAt w15 (w10.heap.size) = some (.cells #[.int .i64 q1, .int .i64 q2] 32 (0, 0))) := Lib.hid (blkK U14.out bW (blk_lt U14.out))
    have V15 : Hid (heapAt w15 (w10.heap.size + 1) = some (.cells #[.int .i64 q3, .int .i64 q4] 32 (0, 0))) := Lib.hid (blkK V14.out bW (blk_lt V14.out))
    have O15 := Lib.hid (O14.out.below bW)
    have Q15 := Lib.hid (Q14.out.below bW)
    have B15 : Hid (Below w.heap.size w w15) := Lib.hid (B14.out.trans (bW.mono B14.out.size))
    rw [← hW]
    clear hW bW
    have II := Lib.hid (iIsSolution_any d3 n3 x3 y3)
    have IS := Lib.hid (sIsSolution_any d3 n3 x3 y3)
    generalize slR d3 n3 x3 y3 = sl at *
    have TI := Lib.hid (fun wd wn w ht => iET_any d n wd wn w ht)
    have TS := Lib.hid (fun wd wn w => sET_any d n wd wn w)
    generalize etR d n = tx at *
    have HT15 := Lib.hid (HT.out.below B15.out)
    have e1 := neqPP
    have e2 := guardPP
    have e3 := lenS
    have cF := F15.out
    obtain ⟨zF, pF1, pF2, pF3, pF4⟩ := blk2 cF
    have cG := G15.out
    obtain ⟨zG, pG1, pG2, pG3, pG4⟩ := blk2 cG
    have cW := W15.out
    obtain ⟨zW, pW1, pW2, pW3, pW4⟩ := blk2 cW
    obtain ⟨ao1, c1, rfl⟩ := O15.out.len
    obtain ⟨ao2, c2, rfl⟩ := Q15.out.len
    go_wp2_with fail
    go_region_held3 (fun w' => Kept w15 w') (repeat (first | (with_reducible assumption) | (with_reducible exact kept_refl _) | (with_reducible exact kept_other (by with_reducible assumption) (by first | omega | (simp; done) | (simp; omega))) | (with_reducible refine kept_alloc ?_) | (with_reducible refine kept_drew ?_) | (with_reducible refine kept_set ?_ (by first | omega | (simp; done) | (simp; omega))) | (with_reducible refine kept_call ?_ hb1))) (first | (go_at_call 19; refine (II.out _).mono ?_; rintro e w1 ⟨rfl, hb1⟩; obtain ⟨hc1, hf1, hl1, hB1⟩ := bcell hb1; (try simp only [World.size_drew, cell_drew, frozen_drew, heapAt_drew] at hc1 hf1 hl1 hB1); have hz1 := hb1.size; (try simp at hz1); (try have hkA := hl1 _ hkA); (try have hkA : _ < w1.heap.size := hz1); (try have hkW : w15.heap.size < w1.heap.size := by omega); (try have hk0 : w.heap.size < w1.heap.size := by omega); (try have hk1 : w.heap.size + 1 < w1.heap.size := by omega); (try have hk2 : w.heap.size + 1 + 1 < w1.heap.size := by omega)) | (go_at_call 20; refine (IS.out _).mono ?_; rintro e w1 ⟨rfl, hb1⟩; obtain ⟨hc1, hf1, hl1, hB1⟩ := bcell hb1; (try simp only [World.size_drew, cell_drew, frozen_drew, heapAt_drew] at hc1 hf1 hl1 hB1); have hz1 := hb1.size; (try simp at hz1); (try have hkA := hl1 _ hkA); (try have hkA : _ < w1.heap.size := hz1); (try have hkW : w15.heap.size < w1.heap.size := by omega); (try have hk0 : w.heap.size < w1.heap.size := by omega); (try have hk1 : w.heap.size + 1 < w1.heap.size := by omega); (try have hk2 : w.heap.size + 1 + 1 < w1.heap.size := by omega)) | (go_at_call 6; refine (TI.out hdw hnw _ (tab_kept (by first | assumption | exact kept_refl _) HT15.out)).mono ?_; rintro e w1 ⟨rfl, hb1⟩; obtain ⟨hc1, hf1, hl1, hB1⟩ := bcell hb1; (try simp only [World.size_drew, cell_drew, frozen_drew, heapAt_drew] at hc1 hf1 hl1 hB1); have hz1 := hb1.size; (try simp at hz1); (try have hkA := hl1 _ hkA); (try have hkA : _ < w1.heap.size := hz1); (try have hkW : w15.heap.size < w1.heap.size := by omega); (try have hk0 : w.heap.size < w1.heap.size := by omega); (try have hk1 : w.heap.size + 1 < w1.heap.size := by omega); (try have hk2 : w.heap.size + 1 + 1 < w1.heap.size := by omega)) | (go_at_call 5; refine (TS.out hdw hnw _).mono ?_; rintro e w1 ⟨rfl, hb1⟩; obtain ⟨hc1, hf1, hl1, hB1⟩ := bcell hb1; (try simp only [World.size_drew, cell_drew, frozen_drew, heapAt_drew] at hc1 hf1 hl1 hB1); have hz1 := hb1.size; (try simp at hz1); (try have hkA := hl1 _ hkA); (try have hkA : _ < w1.heap.size := hz1); (try have hkW : w15.heap.size < w1.heap.size := by omega); (try have hk0 : w.heap.size < w1.heap.size := by omega); (try have hk1 : w.heap.size + 1 < w1.heap.size := by omega); (try have hk2 : w.heap.size + 1 + 1 < w1.heap.size := by omega)))
    have BX : Below w15.heap.size w15 w1 := (by repeat' (first | (with_reducible exact Below.refl _ _) | (with_reducible assumption) | (with_reducible refine Below.setCell ?_ ?_ _) | (with_reducible refine Below.alloc ?_ ?_ _) | (with_reducible refine Below.drew ?_) | (with_reducible refine below_drewN ?_ _) | (with_reducible refine Below.trans ?_ (Below.mono (by with_reducible assumption) ?_)) | go_size | (simp at *; omega)))
    have FV := Lib.hid (blkK F15.out BX (blk_lt F15.out))
    have OV := Lib.hid (O15.out.below BX)
    have QV := Lib.hid (Q15.out.below BX)
    have BV := Lib.hid (B15.out.trans (BX.mono B15.out.size))
    clear hb1 hc1 hf1 hl1 hB1 hz1 BX
    clear pF1 pF2 pF3 pF4 cF pG1 pG2 pG3 pG4 cG pW1 pW2 pW3 pW4 cW
    generalize w1 = V at *
    go_wp2_with fail
    go_loopg [29] (L.length + 1) (fun k u wr => ∃ i : Nat, u = .int .i64 i ∧ i + k = L.length + 1 ∧ i ≤ L.length ∧ Below V.heap.size V wr)
    case atStart => exact ⟨0, rfl, by omega, by omega, Below.refl _ _⟩
    case round =>
      obtain ⟨i, rfl, hik, hil, hbel⟩ := hrel
      have hzr := hbel.size
      have hbw : Below w.heap.size w wr := BV.out.trans (hbel.mono BV.out.size)
      by_cases hlt : i < L.length
      · have i0 : (0 : Int) ≤ (i : Int) := by omega
        have i1 : (i : Int) < (L.length : Int) := by omega
        have hb0 : bad = 0 := by
          by_cases h : bad = 0
          · exact h
          · have := HS2.out h; rw [this] at hlt; simp at hlt
        obtain ⟨⟨⟨hd, hn, hn0⟩, -⟩, hm, he⟩ := HS0.out hb0
        have hsol : isS d n (L[i]).x (L[i]).y = true := su_sol hd hn (most + 1).toNat (by omega) _ (by rw [← HS1.out hb0]; exact List.getElem_mem hlt)
        have IX := Lib.hid (by have h := iIsSolution_any d n (L[i]).x (L[i]).y; rw [slR_ok he hsol] at h; exact h)
        rcases OV.out.shape with ⟨hnil, _⟩ | ⟨hp1, b1, cc1, hv1, -, hb1, -⟩
        · rw [hnil] at hlt; simp at hlt
        rcases QV.out.shape with ⟨hnil, _⟩ | ⟨hp2, b2, cc2, hv2, -, hb2, -⟩
        · rw [hnil] at hlt; simp at hlt
        simp only [Value.slice.injEq] at hv1 hv2
        obtain ⟨rfl, -, rfl⟩ := hv1
        obtain ⟨rfl, -, rfl⟩ := hv2
        obtain ⟨q1, q2⟩ := OwnP.cells (OV.out.below hbel) i hlt
        obtain ⟨q3, q4⟩ := OwnP.cells (QV.out.below hbel) i hlt
        have zb1 : b1 < wr.heap.size := by omega
        have zb2 : b2 < wr.heap.size := by omega
        generalize (L[i]).x = X at *
        generalize (L[i]).y = Y at *
        clear hsol hp1 hp2 he hb0 hd hn hn0 hm
        go_wp2_with fail
        go_region_held3 (fun w' => Kept wr w') (repeat (first | (with_reducible assumption) | (with_reducible exact kept_refl _) | (with_reducible exact kept_other (by with_reducible assumption) (by first | omega | (simp; done) | (simp; omega))) | (with_reducible refine kept_alloc ?_) | (with_reducible refine kept_drew ?_) | (with_reducible refine kept_set ?_ (by first | omega | (simp; done) | (simp; omega))) | (with_reducible refine kept_call ?_ hb1))) (first | (go_at_call 19; refine (IX.out _).mono ?_; rintro e w1 ⟨rfl, hb1⟩; obtain ⟨hc1, hf1, hl1, hB1⟩ := bcell hb1; (try simp only [World.size_drew, cell_drew, frozen_drew, heapAt_drew] at hc1 hf1 hl1 hB1); have hz1 := hb1.size; (try simp at hz1); (try have hkA := hl1 _ hkA); (try have hkA : _ < w1.heap.size := hz1); (try have hkW : wr.heap.size < w1.heap.size := by omega); (try have hk0 : w.heap.size < w1.heap.size := by omega); (try have hk1 : w.heap.size + 1 < w1.heap.size := by omega); (try have hk2 : w.heap.size + 1 + 1 < w1.heap.size := by omega)))
        all_goals
          go_wp2_with fail
          go_roundg (gk - 1)
          case measure => omega
          case rel => exact ⟨i + 1, by go_num, by omega, by omega, (by repeat' (first | (with_reducible exact Below.refl _ _) | (with_reducible assumption) | (with_reducible refine Below.setCell ?_ ?_ _) | (with_reducible refine Below.alloc ?_ ?_ _) | (with_reducible refine Below.drew ?_) | (with_reducible refine below_drewN ?_ _) | (with_reducible refine Below.trans ?_ (Below.mono (by with_reducible assumption) ?_)) | go_size | (simp at *; omega)))⟩
      · have i1 : ¬ (i : Int) < (L.length : Int) := by omega
        have cF := blkK FV.out hbel (blk_lt FV.out)
        obtain ⟨zF, pF1, pF2, pF3, pF4⟩ := blk2 cF
        by_cases hb0 : bad = 0
        · obtain ⟨⟨⟨hd, hn, hn0⟩, -⟩, hm, he⟩ := HS0.out hb0
          have HL := Lib.hid (HS1.out hb0)
          have hbb : (bad != 0) = false := by simp [hb0]
          clear hb0
          by_cases hc : c = 0
          · obtain ⟨y0, hy, hx, hs0, hfirst⟩ := HC0.out hc
            have hcb : (c == 0) = true := by simp [hc]
            have hc3b : (c != 3) = true := by simp [hc]
            by_cases hle : y ≤ most
            · obtain ⟨T, hT⟩ := su_head hs0 hfirst (most + 1).toNat (by omega)
              have hLT : L = ⟨x, y⟩ :: T := by rw [HL.out, hT, hx, hy]
              have hpos : 0 < L.length := by rw [hLT]; simp
              have hL0 : L[0] = ⟨x, y⟩ := by simp [hLT]
              rcases QV.out.shape with ⟨hnil, _⟩ | ⟨hp2, b2, cc2, hv2, -, hb2, -⟩
              · rw [hnil] at hpos; simp at hpos
              simp only [Value.slice.injEq] at hv2
              obtain ⟨rfl, -, rfl⟩ := hv2
              obtain ⟨q3, q4⟩ := OwnP.cells (QV.out.below hbel) 0 hpos
              rw [hL0] at q3 q4
              simp only [Nat.zero_mul, Nat.zero_add] at q3 q4
              have hlb : ((L.length : Int) == 0) = false := beq_eq_false_iff_ne.2 (by omega)
              have hposI : (0 : Int) < (L.length : Int) := by omega
              clear hLT hL0 hT hs0 hfirst hx hy hc hp2
              go_wp2_with fail
              go_quiet (fail)
              go_wp2_with fail
              go_ret
              exact ⟨rfl, (by repeat' (first | (with_reducible exact Below.refl _ _) | (with_reducible assumption) | (with_reducible refine Below.setCell ?_ ?_ _) | (with_reducible refine Below.alloc ?_ ?_ _) | (with_reducible refine Below.drew ?_) | (with_reducible refine below_drewN ?_ _) | (with_reducible refine Below.trans ?_ (Below.mono (by with_reducible assumption) ?_)) | go_size | (simp at *; omega)))⟩
            · have hleb : decide (y ≤ most) = false := decide_eq_false hle
              clear hs0 hfirst hx hy hc
              go_wp2_with fail
              go_quiet (fail)
              go_wp2_with fail
              go_ret
              exact ⟨rfl, (by repeat' (first | (with_reducible exact Below.refl _ _) | (with_reducible assumption) | (with_reducible refine Below.setCell ?_ ?_ _) | (with_reducible refine Below.alloc ?_ ?_ _) | (with_reducible refine Below.drew ?_) | (with_reducible refine below_drewN ?_ _) | (with_reducible refine Below.trans ?_ (Below.mono (by with_reducible assumption) ?_)) | go_size | (simp at *; omega)))⟩
          · have hcb : (c == 0) = false := by simp [hc]
            by_cases hc3 : c = 3
            · have hnil : L = [] := by rw [HL.out]; exact su_nil _ (fun j hj => HC3.out hc3 j (by omega))
              have hlen : (L.length : Int) = 0 := by rw [hnil]; rfl
              have hc3b : (c != 3) = false := by simp [hc3]
              have hlb : ((L.length : Int) == 0) = true := by simp [hlen]
              clear hnil hc3 hc hlen
              go_wp2_with fail
              go_quiet (fail)
              go_wp2_with fail
              try (simp only [lenS, Result.andThen]; go_wp2_with fail)
              go_ret
              exact ⟨rfl, (by repeat' (first | (with_reducible exact Below.refl _ _) | (with_reducible assumption) | (with_reducible refine Below.setCell ?_ ?_ _) | (with_reducible refine Below.alloc ?_ ?_ _) | (with_reducible refine Below.drew ?_) | (with_reducible refine below_drewN ?_ _) | (with_reducible refine Below.trans ?_ (Below.mono (by with_reducible assumption) ?_)) | go_size | (simp at *; omega)))⟩
            · have hc3b : (c != 3) = true := by simp [hc3]
              go_wp2_with fail
              go_quiet (fail)
              go_wp2_with fail
              go_ret
              exact ⟨rfl, (by repeat' (first | (with_reducible exact Below.refl _ _) | (with_reducible assumption) | (with_reducible refine Below.setCell ?_ ?_ _) | (with_reducible refine Below.alloc ?_ ?_ _) | (with_reducible refine Below.drew ?_) | (with_reducible refine below_drewN ?_ _) | (with_reducible refine Below.trans ?_ (Below.mono (by with_reducible assumption) ?_)) | go_size | (simp at *; omega)))⟩
        · have hbb : (bad != 0) = true := by simp [hb0]
          go_wp2_with fail
          go_ret
          exact ⟨rfl, hbw⟩
end Go.Proofs.YtdbbjmcfpfalhaaDoor
