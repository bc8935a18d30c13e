/- The next form has the values of the form, and a reduced form is reached that is equivalent: the walk. -/
import Derived.Test.YtolbihoeheogkaaFoP
import Derived.Test.YtolbihoeheogkaaFmsL
import Derived.BigQuiet
namespace Go.Proofs.Ytolbihoeheogkaa
open Go.ChangeShapes Go.WideShapes Go.ChangeAt Go.RowKit
set_option linter.unusedVariables false
set_option maxHeartbeats 8000000
set_option maxRecDepth 20000
theorem eq6_self (a b c : Int) : eq6 a b c a b c = true := by simp [eq6]
theorem lenF (a : Option Addr) (n c : Nat) (V : World) : Sem.run Try.prog (Builtin.len_ #[37] 3 #[.slice a n c]) V = .ok (.int .i64 n) V := by
  simp [Builtin.len_, go_sem]
theorem maxF (n : Int) (V : World) : Sem.run Try.prog (Builtin.max_ #[2, 2] 2 #[.int .i64 n, .int .i64 (-n)]) V = .ok (.int .i64 (if n < -n then -n else n)) V := by
  simp [Builtin.max_, Builtin.max2, go_sem]
theorem Own.drewn {α : Type} {g : α → List Value} {k : Nat} {w : World} {B : Nat} {T : TypeId} {v : Value} {L : List α} (h : Own w B T k g v L) (n : Nat) : Own (w.drewN n) B T k g v L :=
  h.below (below_drewN (Below.refl _ _) n)
theorem walk_FnForms (a : Option Addr) (len cap : Nat) (z : List Int) {w : World} (hr : IsRow .u8 w a len cap z) (b : Option Addr) (lenb capb : Nat) (zb : List Int) (hr2 : IsRow .u8 w b lenb capb zb) :
    Calls Try.prog 13 #[.slice a len cap, .slice b lenb capb] w fun e w' => e = .returned (.bool true) ∧ Below w.heap.size w w' := by
  have HR := Lib.hid hr.bytes
  have HR2 := Lib.hid hr2.bytes
  clear hr hr2
  have LG := Lib.hid (a2Long_any a b len lenb cap capb)
  cases hbig : (decide (3000 < len) || decide (3000 < lenb))
  case true =>
    rw [hbig] at LG
    go_enter Try.func13, Try.ntmps13
    go_wp2_with (go_at_call 39; refine (LG.out _).mono ?_; rintro e w1 ⟨rfl, rfl⟩)
    go_ret
    exact ⟨rfl, (by repeat' (first | (with_reducible exact Below.refl _ _) | (with_reducible assumption) | (with_reducible refine Below.setCell ?_ ?_ _) | (with_reducible refine Below.alloc ?_ ?_ _) | (with_reducible refine Below.drew ?_) | (with_reducible refine below_drewN ?_ _) | (with_reducible refine Below.trans ?_ (Below.mono (by with_reducible assumption) ?_)) | go_size | (simp at *; omega)))⟩
  case false =>
    rw [hbig] at LG
    simp only [Bool.or_eq_false_iff, decide_eq_false_iff_not] at hbig
    obtain ⟨hl1, hl2⟩ := hbig
    go_enter Try.func13, Try.ntmps13
    go_wp2_with (go_at_call 39; refine (LG.out _).mono ?_; rintro e w1 ⟨rfl, rfl⟩)
    go_wp2_with fail
    refine (a2Form_any a len cap w HR.out (by omega)).mono ?_
    rintro e w1 ⟨f1, f2, f3, rfl, hsm, b1⟩
    have B1 := Lib.hid b1
    clear b1
    obtain ⟨g2, g3, n, r, m, M, q1, q2, q3, q4, q5, q6, q7, q8, q9, q10, q11, q12, q13, q14, q15, q16, q17, q18, q19, q20, q21, q22⟩ := fo_all hsm
    obtain ⟨s1, s2, s3, s4⟩ := hsm
    have m1 := mul_f s2 s2
    have m2 := mul_f (a := 4 * f1) (b := f3) (A := 80) (B := 20) (by omega) s3
    obtain ⟨d, hd⟩ : ∃ d, dF f1 f2 f3 = d := ⟨_, rfl⟩
    have hdn : f2 * f2 - 4 * f1 * f3 = d := hd
    rw [hd] at q3 q22
    obtain ⟨r1, r2, r3⟩ := r
    dsimp only at q11 q12 q16
    have DD := Lib.hid (fun w => by have h := discriminant_any f1 f2 f3 w; rw [show dR f1 f2 f3 = (d, 0) from by unfold dR; rw [if_pos s4, hd]] at h; exact h)
    have ST := Lib.hid (fun w => by have h := iStepForm_any f1 f2 f3 w; rw [q1] at h; dsimp only at h; exact h)
    have VG := Lib.hid (fun w => by have h := sValidForm_any f3 g2 g3 w; rw [q2] at h; exact h)
    have AG := Lib.hid (fun x y (hx : -20 ≤ x ∧ x ≤ 20) (hy : -20 ≤ y ∧ y ≤ 20) w => by
      have h := formAt_any f3 g2 g3 x y w
      rw [show aR f3 g2 g3 x y = (vA f3 g2 g3 x y, 0) from by unfold aR; rw [if_pos q2, if_pos (by rw [inF_iff.2 (by omega), inF_iff.2 (by omega)]; rfl)]] at h
      exact h)
    have AF := Lib.hid (fun x y (hx : -20 ≤ x ∧ x ≤ 20) (hy : -20 ≤ y ∧ y ≤ 20) (hny : -640 ≤ n * y ∧ n * y ≤ 640) w => by
      have h := formAt_any f1 f2 f3 (-y) (x + n * y) w
      rw [show aR f1 f2 f3 (-y) (x + n * y) = (vA f3 g2 g3 x y, 0) from by unfold aR; rw [if_pos s4, if_pos (by rw [inF_iff.2 (by omega), inF_iff.2 (by omega)]; rfl), q9]] at h
      exact h)
    have DG := Lib.hid (fun w => by have h := sDiscriminant_any f3 g2 g3 w; rw [show dR f3 g2 g3 = (d, 0) from by unfold dR; rw [if_pos q2, q3]] at h; exact h)
    have RD := Lib.hid (fun w => by have h := reduceForm_any f1 f2 f3 w; rw [q10] at h; dsimp only at h; exact h)
    have IR := Lib.hid (fun w => by have h := sIsReducedForm_any r1 r2 r3 w; rw [q11, q12] at h; exact h)
    have IF := Lib.hid (fun w => by have h := isReducedForm_any f1 f2 f3 w; rw [s4, q13] at h; exact h)
    have E1 := Lib.hid (fun w => by have h := iEquivalentForms_any f1 f2 f3 r1 r2 r3 w; rw [q16] at h; exact h)
    have E2 := Lib.hid (fun w => by have h := iEquivalentForms_any f3 g2 g3 f1 f2 f3 w; rw [q17] at h; exact h)
    have FC := Lib.hid (fun w => by have h := iFormCycle_any f1 f2 f3 w; rw [q18] at h; exact h)
    have IRc := Lib.hid (fun i (hi : i < M.length) w => by have h := sIsReducedForm_any M[i].a M[i].b M[i].c w; rw [(q21 i hi).1, (q21 i hi).2] at h; exact h)
    have SSc := Lib.hid (fun (h0 : 0 < d) i (hi : i < M.length) w => by have h := sStepForm_any M[i].a M[i].b M[i].c w; rw [q22 h0 i hi] at h; dsimp only at h; exact h)
    have HM0 := Lib.hid q20
    have HR14 := Lib.hid q14
    have hf3 : ¬ 2 * f3 = 0 := by omega
    have n1 := neqF r1 r2 r3 f1 f2 f3
    have n2 := neqF r1 r2 r3 r1 r2 r3
    have n3 := eq6_self r1 r2 r3
    have n4 := guardF
    clear q1 q2 q3 q9 q10 q11 q12 q13 q14 q16 q17 q18 q20 q21 q22 hd
    go_wp2_with fail
    obtain ⟨w2, hW⟩ : ∃ w', w' = (w1.alloc (.cells #[.int .i64 f1, .int .i64 f2, .int .i64 f3] 25)) := ⟨_, rfl⟩
    have bW : Below w1.heap.size w1 w2 := by rw [hW]; exact (by repeat' (first | (with_reducible exact Below.refl _ _) | (with_reducible assumption) | (with_reducible refine Below.setCell ?_ ?_ _) | (with_reducible refine Below.alloc ?_ ?_ _) | (with_reducible refine Below.drew ?_) | (with_reducible refine below_drewN ?_ _) | (with_reducible refine Below.trans ?_ (Below.mono (by with_reducible assumption) ?_)) | go_size | (simp at *; omega)))
    have F2 : Hid (heapAt w2 (w1.heap.size) = some (.cells #[.int .i64 f1, .int .i64 f2, .int .i64 f3] 25 (0, 0))) := Lib.hid (by rw [hW]; exact heapAt_new _ _)
    have B2 : Hid (Below w.heap.size w w2) := Lib.hid (B1.out.trans (bW.mono B1.out.size))
    rw [← hW]
    clear hW bW
    have cF := F2.out
    obtain ⟨zF, pF0, pF1, pF2, fF0, fF1, fF2⟩ := blk3 cF
    go_wp2_with fail
    refine (DD.out _).mono ?_
    rintro e w3 ⟨rfl, b3⟩
    have F3 : Hid (heapAt w3 (w1.heap.size) = some (.cells #[.int .i64 f1, .int .i64 f2, .int .i64 f3] 25 (0, 0))) := Lib.hid (blkK F2.out b3 (blk_lt F2.out))
    have B3 : Hid (Below w.heap.size w w3) := Lib.hid (B2.out.trans (b3.mono B2.out.size))
    clear b3
    clear pF0 pF1 pF2 fF0 fF1 fF2 cF
    have cF := F3.out
    obtain ⟨zF, pF0, pF1, pF2, fF0, fF1, fF2⟩ := blk3 cF
    go_wp2_with fail
    refine (ST.out _).mono ?_
    rintro e w4 ⟨rfl, b4⟩
    have F4 : Hid (heapAt w4 (w1.heap.size) = some (.cells #[.int .i64 f1, .int .i64 f2, .int .i64 f3] 25 (0, 0))) := Lib.hid (blkK F3.out b4 (blk_lt F3.out))
    have B4 : Hid (Below w.heap.size w w4) := Lib.hid (B3.out.trans (b4.mono B3.out.size))
    clear b4
    clear pF0 pF1 pF2 fF0 fF1 fF2 cF
    have cF := F4.out
    obtain ⟨zF, pF0, pF1, pF2, fF0, fF1, fF2⟩ := blk3 cF
    go_wp2_with fail
    clear pF0 pF1 pF2 fF0 fF1 fF2 cF
    obtain ⟨w5, hW⟩ : ∃ w', w' = (w4.alloc (.cells #[.int .i64 f3, .int .i64 g2, .int .i64 g3] 25)) := ⟨_, rfl⟩
    have bW : Below w4.heap.size w4 w5 := by rw [hW]; exact (by repeat' (first | (with_reducible exact Below.refl _ _) | (with_reducible assumption) | (with_reducible refine Below.setCell ?_ ?_ _) | (with_reducible refine Below.alloc ?_ ?_ _) | (with_reducible refine Below.drew ?_) | (with_reducible refine below_drewN ?_ _) | (with_reducible refine Below.trans ?_ (Below.mono (by with_reducible assumption) ?_)) | go_size | (simp at *; omega)))
    have G5 : Hid (heapAt w5 (w4.heap.size) = some (.cells #[.int .i64 f3, .int .i64 g2, .int .i64 g3] 25 (0, 0))) := Lib.hid (by rw [hW]; exact heapAt_new _ _)
    have F5 : Hid (heapAt w5 (w1.heap.size) = some (.cells #[.int .i64 f1, .int .i64 f2, .int .i64 f3] 25 (0, 0))) := Lib.hid (blkK F4.out bW (blk_lt F4.out))
    have B5 : Hid (Below w.heap.size w w5) := Lib.hid (B4.out.trans (bW.mono B4.out.size))
    rw [← hW]
    clear hW bW
    refine (VG.out _).mono ?_
    rintro e w6 ⟨rfl, b6⟩
    have F6 : Hid (heapAt w6 (w1.heap.size) = some (.cells #[.int .i64 f1, .int .i64 f2, .int .i64 f3] 25 (0, 0))) := Lib.hid (blkK F5.out b6 (blk_lt F5.out))
    have G6 : Hid (heapAt w6 (w4.heap.size) = some (.cells #[.int .i64 f3, .int .i64 g2, .int .i64 g3] 25 (0, 0))) := Lib.hid (blkK G5.out b6 (blk_lt G5.out))
    have B6 : Hid (Below w.heap.size w w6) := Lib.hid (B5.out.trans (b6.mono B5.out.size))
    clear b6
    have cF := F6.out
    obtain ⟨zF, pF0, pF1, pF2, fF0, fF1, fF2⟩ := blk3 cF
    have cG := G6.out
    obtain ⟨zG, pG0, pG1, pG2, fG0, fG1, fG2⟩ := blk3 cG
    go_wp2_with fail
    refine (a2At_any b lenb capb 0 41 w.heap.size _ (HR2.out.below B6.out (Nat.le_refl _)) (by omega) (by omega) (by omega)).mono ?_
    rintro e w_ ⟨⟨x, rfl, xl, xu⟩, rfl⟩
    obtain ⟨X, hX⟩ : ∃ X, x - 20 = X := ⟨_, rfl⟩
    have bX : -20 ≤ X ∧ X ≤ 20 := by omega
    go_wp2_with fail
    refine (a2At_any b lenb capb 1 41 w.heap.size _ (HR2.out.below B6.out (Nat.le_refl _)) (by omega) (by omega) (by omega)).mono ?_
    rintro e w_ ⟨⟨y, rfl, yl, yu⟩, rfl⟩
    obtain ⟨Y, hY⟩ : ∃ Y, y - 20 = Y := ⟨_, rfl⟩
    have bY : -20 ≤ Y ∧ Y ≤ 20 := by omega
    have mnY : -640 ≤ n * Y ∧ n * Y ≤ 640 := by have := mul_f (a := n) (b := Y) (A := 32) (B := 20) q7 bY; omega
    have A1 := Lib.hid (AG.out X Y bX bY)
    have A2 := Lib.hid (AF.out X Y bX bY mnY)
    generalize vA f3 g2 g3 X Y = P at A1 A2
    have mx := maxF n
    obtain ⟨N, hN⟩ : ∃ N, (if n < -n then -n else n) = N := ⟨_, rfl⟩
    have hN4 : N ≤ 400 := by rw [← hN]; split <;> omega
    simp only [hN] at mx
    clear hN
    clear q4 q5 m1 m2
    go_wp2_with fail
    refine (A1.out _).mono ?_
    rintro e w7 ⟨rfl, b7⟩
    have F7 : Hid (heapAt w7 (w1.heap.size) = some (.cells #[.int .i64 f1, .int .i64 f2, .int .i64 f3] 25 (0, 0))) := Lib.hid (blkK F6.out b7 (blk_lt F6.out))
    have G7 : Hid (heapAt w7 (w4.heap.size) = some (.cells #[.int .i64 f3, .int .i64 g2, .int .i64 g3] 25 (0, 0))) := Lib.hid (blkK G6.out b7 (blk_lt G6.out))
    have B7 : Hid (Below w.heap.size w w7) := Lib.hid (B6.out.trans (b7.mono B6.out.size))
    clear b7
    clear pF0 pF1 pF2 fF0 fF1 fF2 cF
    clear pG0 pG1 pG2 fG0 fG1 fG2 cG
    have cF := F7.out
    obtain ⟨zF, pF0, pF1, pF2, fF0, fF1, fF2⟩ := blk3 cF
    go_wp2_with fail
    refine (A2.out _).mono ?_
    rintro e w8 ⟨rfl, b8⟩
    have F8 : Hid (heapAt w8 (w1.heap.size) = some (.cells #[.int .i64 f1, .int .i64 f2, .int .i64 f3] 25 (0, 0))) := Lib.hid (blkK F7.out b8 (blk_lt F7.out))
    have G8 : Hid (heapAt w8 (w4.heap.size) = some (.cells #[.int .i64 f3, .int .i64 g2, .int .i64 g3] 25 (0, 0))) := Lib.hid (blkK G7.out b8 (blk_lt G7.out))
    have B8 : Hid (Below w.heap.size w w8) := Lib.hid (B7.out.trans (b8.mono B7.out.size))
    clear b8
    clear pF0 pF1 pF2 fF0 fF1 fF2 cF
    clear hX hY mx
    have cG := G8.out
    obtain ⟨zG, pG0, pG1, pG2, fG0, fG1, fG2⟩ := blk3 cG
    go_wp2_with fail
    refine (DG.out _).mono ?_
    rintro e w9 ⟨rfl, b9⟩
    have F9 : Hid (heapAt w9 (w1.heap.size) = some (.cells #[.int .i64 f1, .int .i64 f2, .int .i64 f3] 25 (0, 0))) := Lib.hid (blkK F8.out b9 (blk_lt F8.out))
    have G9 : Hid (heapAt w9 (w4.heap.size) = some (.cells #[.int .i64 f3, .int .i64 g2, .int .i64 g3] 25 (0, 0))) := Lib.hid (blkK G8.out b9 (blk_lt G8.out))
    have B9 : Hid (Below w.heap.size w w9) := Lib.hid (B8.out.trans (b9.mono B8.out.size))
    clear b9
    clear pG0 pG1 pG2 fG0 fG1 fG2 cG
    have cF := F9.out
    obtain ⟨zF, pF0, pF1, pF2, fF0, fF1, fF2⟩ := blk3 cF
    go_wp2_with fail
    refine (RD.out _).mono ?_
    rintro e w10 ⟨rfl, b10⟩
    have F10 : Hid (heapAt w10 (w1.heap.size) = some (.cells #[.int .i64 f1, .int .i64 f2, .int .i64 f3] 25 (0, 0))) := Lib.hid (blkK F9.out b10 (blk_lt F9.out))
    have G10 : Hid (heapAt w10 (w4.heap.size) = some (.cells #[.int .i64 f3, .int .i64 g2, .int .i64 g3] 25 (0, 0))) := Lib.hid (blkK G9.out b10 (blk_lt G9.out))
    have B10 : Hid (Below w.heap.size w w10) := Lib.hid (B9.out.trans (b10.mono B9.out.size))
    clear b10
    clear pF0 pF1 pF2 fF0 fF1 fF2 cF
    go_wp2_with fail
    obtain ⟨w11, hW⟩ : ∃ w', w' = (w10.alloc (.cells #[.int .i64 r1, .int .i64 r2, .int .i64 r3] 25)) := ⟨_, rfl⟩
    have bW : Below w10.heap.size w10 w11 := by rw [hW]; exact (by repeat' (first | (with_reducible exact Below.refl _ _) | (with_reducible assumption) | (with_reducible refine Below.setCell ?_ ?_ _) | (with_reducible refine Below.alloc ?_ ?_ _) | (with_reducible refine Below.drew ?_) | (with_reducible refine below_drewN ?_ _) | (with_reducible refine Below.trans ?_ (Below.mono (by with_reducible assumption) ?_)) | go_size | (simp at *; omega)))
    have R11 : Hid (heapAt w11 (w10.heap.size) = some (.cells #[.int .i64 r1, .int .i64 r2, .int .i64 r3] 25 (0, 0))) := Lib.hid (by rw [hW]; exact heapAt_new _ _)
    have F11 : Hid (heapAt w11 (w1.heap.size) = some (.cells #[.int .i64 f1, .int .i64 f2, .int .i64 f3] 25 (0, 0))) := Lib.hid (blkK F10.out bW (blk_lt F10.out))
    have G11 : Hid (heapAt w11 (w4.heap.size) = some (.cells #[.int .i64 f3, .int .i64 g2, .int .i64 g3] 25 (0, 0))) := Lib.hid (blkK G10.out bW (blk_lt G10.out))
    have B11 : Hid (Below w.heap.size w w11) := Lib.hid (B10.out.trans (bW.mono B10.out.size))
    rw [← hW]
    clear hW bW
    refine (IR.out _).mono ?_
    rintro e w12 ⟨rfl, b12⟩
    have F12 : Hid (heapAt w12 (w1.heap.size) = some (.cells #[.int .i64 f1, .int .i64 f2, .int .i64 f3] 25 (0, 0))) := Lib.hid (blkK F11.out b12 (blk_lt F11.out))
    have G12 : Hid (heapAt w12 (w4.heap.size) = some (.cells #[.int .i64 f3, .int .i64 g2, .int .i64 g3] 25 (0, 0))) := Lib.hid (blkK G11.out b12 (blk_lt G11.out))
    have R12 : Hid (heapAt w12 (w10.heap.size) = some (.cells #[.int .i64 r1, .int .i64 r2, .int .i64 r3] 25 (0, 0))) := Lib.hid (blkK R11.out b12 (blk_lt R11.out))
    have B12 : Hid (Below w.heap.size w w12) := Lib.hid (B11.out.trans (b12.mono B11.out.size))
    clear b12
    by_cases hm : m = 0
    · skip
      have hmb : ((m : Int) == 0) = true := by simp [hm]
      have hr14 := HR14.out hm
      simp only [Fm.mk.injEq] at hr14
      have n5 : eq6 r1 r2 r3 f1 f2 f3 = true := by rw [hr14.1, hr14.2.1, hr14.2.2]; exact eq6_self _ _ _
      rw [show decide (m = 0) = true from by simp [hm]] at IF
      clear hr14
      have hm0 : ¬ (m : Int) < 0 := by omega
      have cF := F12.out
      obtain ⟨zF, pF0, pF1, pF2, fF0, fF1, fF2⟩ := blk3 cF
      go_wp2_with fail
      refine (IF.out _).mono ?_
      rintro e w13 ⟨rfl, b13⟩
      have F13 : Hid (heapAt w13 (w1.heap.size) = some (.cells #[.int .i64 f1, .int .i64 f2, .int .i64 f3] 25 (0, 0))) := Lib.hid (blkK F12.out b13 (blk_lt F12.out))
      have G13 : Hid (heapAt w13 (w4.heap.size) = some (.cells #[.int .i64 f3, .int .i64 g2, .int .i64 g3] 25 (0, 0))) := Lib.hid (blkK G12.out b13 (blk_lt G12.out))
      have R13 : Hid (heapAt w13 (w10.heap.size) = some (.cells #[.int .i64 r1, .int .i64 r2, .int .i64 r3] 25 (0, 0))) := Lib.hid (blkK R12.out b13 (blk_lt R12.out))
      have B13 : Hid (Below w.heap.size w w13) := Lib.hid (B12.out.trans (b13.mono B12.out.size))
      clear b13
      clear pF0 pF1 pF2 fF0 fF1 fF2 cF
      have cF := F13.out
      obtain ⟨zF, pF0, pF1, pF2, fF0, fF1, fF2⟩ := blk3 cF
      have cR := R13.out
      obtain ⟨zR, pR0, pR1, pR2, fR0, fR1, fR2⟩ := blk3 cR
      go_wp2_with fail
      refine (E1.out _).mono ?_
      rintro e w14 ⟨rfl, b14⟩
      have F14 : Hid (heapAt w14 (w1.heap.size) = some (.cells #[.int .i64 f1, .int .i64 f2, .int .i64 f3] 25 (0, 0))) := Lib.hid (blkK F13.out b14 (blk_lt F13.out))
      have G14 : Hid (heapAt w14 (w4.heap.size) = some (.cells #[.int .i64 f3, .int .i64 g2, .int .i64 g3] 25 (0, 0))) := Lib.hid (blkK G13.out b14 (blk_lt G13.out))
      have R14 : Hid (heapAt w14 (w10.heap.size) = some (.cells #[.int .i64 r1, .int .i64 r2, .int .i64 r3] 25 (0, 0))) := Lib.hid (blkK R13.out b14 (blk_lt R13.out))
      have B14 : Hid (Below w.heap.size w w14) := Lib.hid (B13.out.trans (b14.mono B13.out.size))
      clear b14
      clear pF0 pF1 pF2 fF0 fF1 fF2 cF
      clear pR0 pR1 pR2 fR0 fR1 fR2 cR
      have cF := F14.out
      obtain ⟨zF, pF0, pF1, pF2, fF0, fF1, fF2⟩ := blk3 cF
      have cG := G14.out
      obtain ⟨zG, pG0, pG1, pG2, fG0, fG1, fG2⟩ := blk3 cG
      go_wp2_with fail
      refine (E2.out _).mono ?_
      rintro e w15 ⟨rfl, b15⟩
      have F15 : Hid (heapAt w15 (w1.heap.size) = some (.cells #[.int .i64 f1, .int .i64 f2, .int .i64 f3] 25 (0, 0))) := Lib.hid (blkK F14.out b15 (blk_lt F14.out))
      have G15 : Hid (heapAt w15 (w4.heap.size) = some (.cells #[.int .i64 f3, .int .i64 g2, .int .i64 g3] 25 (0, 0))) := Lib.hid (blkK G14.out b15 (blk_lt G14.out))
      have R15 : Hid (heapAt w15 (w10.heap.size) = some (.cells #[.int .i64 r1, .int .i64 r2, .int .i64 r3] 25 (0, 0))) := Lib.hid (blkK R14.out b15 (blk_lt R14.out))
      have B15 : Hid (Below w.heap.size w w15) := Lib.hid (B14.out.trans (b15.mono B14.out.size))
      clear b15
      clear pF0 pF1 pF2 fF0 fF1 fF2 cF
      clear pG0 pG1 pG2 fG0 fG1 fG2 cG
      have cF := F15.out
      obtain ⟨zF, pF0, pF1, pF2, fF0, fF1, fF2⟩ := blk3 cF
      go_wp2_with fail
      refine (FC.out _).mono ?_
      intro e w16 hr
      unfold RetFC at hr
      obtain ⟨V, rfl, hV, b16⟩ := hr
      have F16 : Hid (heapAt w16 (w1.heap.size) = some (.cells #[.int .i64 f1, .int .i64 f2, .int .i64 f3] 25 (0, 0))) := Lib.hid (blkK F15.out b16 (blk_lt F15.out))
      have G16 : Hid (heapAt w16 (w4.heap.size) = some (.cells #[.int .i64 f3, .int .i64 g2, .int .i64 g3] 25 (0, 0))) := Lib.hid (blkK G15.out b16 (blk_lt G15.out))
      have R16 : Hid (heapAt w16 (w10.heap.size) = some (.cells #[.int .i64 r1, .int .i64 r2, .int .i64 r3] 25 (0, 0))) := Lib.hid (blkK R15.out b16 (blk_lt R15.out))
      have B16 : Hid (Below w.heap.size w w16) := Lib.hid (B15.out.trans (b16.mono B15.out.size))
      clear b16
      clear pF0 pF1 pF2 fF0 fF1 fF2 cF
      obtain ⟨hpos, hM0⟩ := HM0.out
      obtain ⟨bM, cM, hv, hbM⟩ : ∃ bM cM, V = .slice (some ⟨bM, 0, none⟩) M.length cM ∧ bM < w16.heap.size := by
        rcases hV.shape with ⟨h, _⟩ | ⟨_, g, cp, h, _, hl, _⟩
        · rw [h] at hpos
          simp at hpos
        · exact ⟨g, cp, h, hl⟩
      subst hv
      have Q := Lib.hid hV
      clear hV
      obtain ⟨x1, x2, x3⟩ := OwnF.cells Q.out 0 hpos
      rw [hM0] at x1 x2 x3
      dsimp only at x1 x2 x3
      simp only [Nat.zero_mul, Nat.zero_add] at x1 x2 x3
      have hlb : ((M.length : Int) == 0) = false := beq_eq_false_iff_ne.2 (by omega)
      have hposI : (0 : Int) < (M.length : Int) := by omega
      have cR := R16.out
      obtain ⟨zR, pR0, pR1, pR2, fR0, fR1, fR2⟩ := blk3 cR
      go_wp2_with fail
      go_quiet (fail)
      go_wp2_with fail
      obtain ⟨wD, hD⟩ : ∃ w', w' = w16.drewN nq := ⟨_, rfl⟩
      have QD : Hid (OwnF wD _ (.slice (some ⟨bM, 0, none⟩) M.length cM) M) := Lib.hid (by rw [hD]; exact Q.out.drewn nq)
      have BD : Hid (Below w.heap.size w wD) := Lib.hid (by rw [hD]; exact below_drewN B16.out nq)
      have hbD : bM < wD.heap.size := by rw [hD]; exact hbM
      rw [← hD]
      clear hD x1 x2 x3 hlb
      clear pR0 pR1 pR2 fR0 fR1 fR2 cR
      go_loopg [28] M.length (fun k u wr => ∃ i : Nat, i + k = M.length ∧ u = .int .i64 i ∧ Below wD.heap.size wD wr)
      case atStart => exact ⟨0, by omega, rfl, Below.refl _ _⟩
      case round =>
        obtain ⟨i, hik, rfl, hbel⟩ := hrel
        have hsz := hbel.size
        by_cases hlt : i < M.length
        · obtain ⟨x1, x2, x3⟩ := OwnF.cells (QD.out.below hbel) i hlt
          have IX := Lib.hid (IRc.out i hlt)
          have SX := Lib.hid (fun h0 => SSc.out h0 i hlt)
          have i0 : (0 : Int) ≤ (i : Int) := by omega
          have i1 : (i : Int) < (M.length : Int) := by omega
          obtain ⟨y, hy⟩ : ∃ y, M[i] = y := ⟨_, rfl⟩
          rw [hy] at x1 x2 x3 IX SX
          have HY := Lib.hid hy
          clear hy
          obtain ⟨ya, yb, yc⟩ := y
          dsimp only at x1 x2 x3 IX SX
          go_wp2_with fail
          refine (IX.out _).mono ?_
          rintro e wA ⟨rfl, bA⟩
          have hbelA : Below wD.heap.size wD wA := hbel.trans (bA.mono hsz)
          have hszA := hbelA.size
          clear bA x1 x2 x3
          obtain ⟨x1, x2, x3⟩ := OwnF.cells (QD.out.below hbelA) i hlt
          rw [HY.out] at x1 x2 x3
          dsimp only at x1 x2 x3
          by_cases h0 : 0 < d
          · obtain ⟨j, hj⟩ : ∃ j, (i + 1) % M.length = j := ⟨_, rfl⟩
            have hjl : j < M.length := by rw [← hj]; exact Nat.mod_lt _ hpos
            have hji : ((i : Int) + 1).tmod (M.length : Int) = (j : Int) := by
              rw [← hj, Int.tmod_eq_emod_of_nonneg (by omega)]
              exact_mod_cast rfl
            have SY := Lib.hid (SX.out h0)
            rw [hj, getD_at M _ hjl] at SY
            have hln : ¬ (M.length : Int) = 0 := by omega
            obtain ⟨t, ht⟩ : ∃ t, M[j] = t := ⟨_, rfl⟩
            rw [ht] at SY
            have HT := Lib.hid ht
            clear ht hj
            obtain ⟨ta, tb, tc⟩ := t
            dsimp only at SY
            go_wp2_with fail
            refine (SY.out _).mono ?_
            rintro e wB ⟨rfl, bB⟩
            have hbelB : Below wD.heap.size wD wB := hbelA.trans (bB.mono hszA)
            have hszB := hbelB.size
            clear bB x1 x2 x3
            go_wp2_with fail
            obtain ⟨wC, hC⟩ : ∃ w', w' = (wB.alloc (.cells #[.int .i64 ta, .int .i64 tb, .int .i64 tc] 25)) := ⟨_, rfl⟩
            have hbelC : Below wD.heap.size wD wC := by rw [hC]; exact Below.alloc hbelB hszB _
            have TC : heapAt wC wB.heap.size = some (.cells #[.int .i64 ta, .int .i64 tb, .int .i64 tc] 25 (0, 0)) := by rw [hC]; exact heapAt_new _ _
            rw [← hC]
            clear hC
            obtain ⟨y1, y2, y3⟩ := OwnF.cells (QD.out.below hbelC) j hjl
            rw [HT.out] at y1 y2 y3
            dsimp only at y1 y2 y3
            obtain ⟨zT, t1, t2, t3, u1, u2, u3⟩ := blk3 TC
            have j0 : (0 : Int) ≤ (j : Int) := by omega
            have j1 : (j : Int) < (M.length : Int) := by omega
            have n6 := neqF ta tb tc ta tb tc
            have n7 := eq6_self ta tb tc
            go_wp2_with fail
            go_quiet (fail)
            go_wp2_with fail
            go_roundg (gk - 1)
            case measure => omega
            case rel => exact ⟨i + 1, by omega, by go_num, below_drewN hbelC nq⟩
          · have hdb : decide (d > 0) = false := decide_eq_false (by omega)
            go_wp2_with fail
            go_roundg (gk - 1)
            case measure => omega
            case rel => exact ⟨i + 1, by omega, by go_num, hbelA⟩
        · have EQ : i = M.length := by omega
          go_wp2_with fail
          go_ret
          exact ⟨rfl, BD.out.trans (hbel.mono BD.out.size)⟩
    · skip
      have hmb : ((m : Int) == 0) = false := by simp [hm]
      rw [show decide (m = 0) = false from by simp [hm]] at IF
      have hm0 : ¬ (m : Int) < 0 := by omega
      have cF := F12.out
      obtain ⟨zF, pF0, pF1, pF2, fF0, fF1, fF2⟩ := blk3 cF
      go_wp2_with fail
      refine (IF.out _).mono ?_
      rintro e w13 ⟨rfl, b13⟩
      have F13 : Hid (heapAt w13 (w1.heap.size) = some (.cells #[.int .i64 f1, .int .i64 f2, .int .i64 f3] 25 (0, 0))) := Lib.hid (blkK F12.out b13 (blk_lt F12.out))
      have G13 : Hid (heapAt w13 (w4.heap.size) = some (.cells #[.int .i64 f3, .int .i64 g2, .int .i64 g3] 25 (0, 0))) := Lib.hid (blkK G12.out b13 (blk_lt G12.out))
      have R13 : Hid (heapAt w13 (w10.heap.size) = some (.cells #[.int .i64 r1, .int .i64 r2, .int .i64 r3] 25 (0, 0))) := Lib.hid (blkK R12.out b13 (blk_lt R12.out))
      have B13 : Hid (Below w.heap.size w w13) := Lib.hid (B12.out.trans (b13.mono B12.out.size))
      clear b13
      clear pF0 pF1 pF2 fF0 fF1 fF2 cF
      have cF := F13.out
      obtain ⟨zF, pF0, pF1, pF2, fF0, fF1, fF2⟩ := blk3 cF
      have cR := R13.out
      obtain ⟨zR, pR0, pR1, pR2, fR0, fR1, fR2⟩ := blk3 cR
      go_wp2_with fail
      refine (E1.out _).mono ?_
      rintro e w14 ⟨rfl, b14⟩
      have F14 : Hid (heapAt w14 (w1.heap.size) = some (.cells #[.int .i64 f1, .int .i64 f2, .int .i64 f3] 25 (0, 0))) := Lib.hid (blkK F13.out b14 (blk_lt F13.out))
      have G14 : Hid (heapAt w14 (w4.heap.size) = some (.cells #[.int .i64 f3, .int .i64 g2, .int .i64 g3] 25 (0, 0))) := Lib.hid (blkK G13.out b14 (blk_lt G13.out))
      have R14 : Hid (heapAt w14 (w10.heap.size) = some (.cells #[.int .i64 r1, .int .i64 r2, .int .i64 r3] 25 (0, 0))) := Lib.hid (blkK R13.out b14 (blk_lt R13.out))
      have B14 : Hid (Below w.heap.size w w14) := Lib.hid (B13.out.trans (b14.mono B13.out.size))
      clear b14
      clear pF0 pF1 pF2 fF0 fF1 fF2 cF
      clear pR0 pR1 pR2 fR0 fR1 fR2 cR
      have cF := F14.out
      obtain ⟨zF, pF0, pF1, pF2, fF0, fF1, fF2⟩ := blk3 cF
      have cG := G14.out
      obtain ⟨zG, pG0, pG1, pG2, fG0, fG1, fG2⟩ := blk3 cG
      go_wp2_with fail
      refine (E2.out _).mono ?_
      rintro e w15 ⟨rfl, b15⟩
      have F15 : Hid (heapAt w15 (w1.heap.size) = some (.cells #[.int .i64 f1, .int .i64 f2, .int .i64 f3] 25 (0, 0))) := Lib.hid (blkK F14.out b15 (blk_lt F14.out))
      have G15 : Hid (heapAt w15 (w4.heap.size) = some (.cells #[.int .i64 f3, .int .i64 g2, .int .i64 g3] 25 (0, 0))) := Lib.hid (blkK G14.out b15 (blk_lt G14.out))
      have R15 : Hid (heapAt w15 (w10.heap.size) = some (.cells #[.int .i64 r1, .int .i64 r2, .int .i64 r3] 25 (0, 0))) := Lib.hid (blkK R14.out b15 (blk_lt R14.out))
      have B15 : Hid (Below w.heap.size w w15) := Lib.hid (B14.out.trans (b15.mono B14.out.size))
      clear b15
      clear pF0 pF1 pF2 fF0 fF1 fF2 cF
      clear pG0 pG1 pG2 fG0 fG1 fG2 cG
      have cF := F15.out
      obtain ⟨zF, pF0, pF1, pF2, fF0, fF1, fF2⟩ := blk3 cF
      go_wp2_with fail
      refine (FC.out _).mono ?_
      intro e w16 hr
      unfold RetFC at hr
      obtain ⟨V, rfl, hV, b16⟩ := hr
      have F16 : Hid (heapAt w16 (w1.heap.size) = some (.cells #[.int .i64 f1, .int .i64 f2, .int .i64 f3] 25 (0, 0))) := Lib.hid (blkK F15.out b16 (blk_lt F15.out))
      have G16 : Hid (heapAt w16 (w4.heap.size) = some (.cells #[.int .i64 f3, .int .i64 g2, .int .i64 g3] 25 (0, 0))) := Lib.hid (blkK G15.out b16 (blk_lt G15.out))
      have R16 : Hid (heapAt w16 (w10.heap.size) = some (.cells #[.int .i64 r1, .int .i64 r2, .int .i64 r3] 25 (0, 0))) := Lib.hid (blkK R15.out b16 (blk_lt R15.out))
      have B16 : Hid (Below w.heap.size w w16) := Lib.hid (B15.out.trans (b16.mono B15.out.size))
      clear b16
      clear pF0 pF1 pF2 fF0 fF1 fF2 cF
      obtain ⟨hpos, hM0⟩ := HM0.out
      obtain ⟨bM, cM, hv, hbM⟩ : ∃ bM cM, V = .slice (some ⟨bM, 0, none⟩) M.length cM ∧ bM < w16.heap.size := by
        rcases hV.shape with ⟨h, _⟩ | ⟨_, g, cp, h, _, hl, _⟩
        · rw [h] at hpos
          simp at hpos
        · exact ⟨g, cp, h, hl⟩
      subst hv
      have Q := Lib.hid hV
      clear hV
      obtain ⟨x1, x2, x3⟩ := OwnF.cells Q.out 0 hpos
      rw [hM0] at x1 x2 x3
      dsimp only at x1 x2 x3
      simp only [Nat.zero_mul, Nat.zero_add] at x1 x2 x3
      have hlb : ((M.length : Int) == 0) = false := beq_eq_false_iff_ne.2 (by omega)
      have hposI : (0 : Int) < (M.length : Int) := by omega
      have cR := R16.out
      obtain ⟨zR, pR0, pR1, pR2, fR0, fR1, fR2⟩ := blk3 cR
      go_wp2_with fail
      go_quiet (fail)
      go_wp2_with fail
      obtain ⟨wD, hD⟩ : ∃ w', w' = w16.drewN nq := ⟨_, rfl⟩
      have QD : Hid (OwnF wD _ (.slice (some ⟨bM, 0, none⟩) M.length cM) M) := Lib.hid (by rw [hD]; exact Q.out.drewn nq)
      have BD : Hid (Below w.heap.size w wD) := Lib.hid (by rw [hD]; exact below_drewN B16.out nq)
      have hbD : bM < wD.heap.size := by rw [hD]; exact hbM
      rw [← hD]
      clear hD x1 x2 x3 hlb
      clear pR0 pR1 pR2 fR0 fR1 fR2 cR
      go_loopg [28] M.length (fun k u wr => ∃ i : Nat, i + k = M.length ∧ u = .int .i64 i ∧ Below wD.heap.size wD wr)
      case atStart => exact ⟨0, by omega, rfl, Below.refl _ _⟩
      case round =>
        obtain ⟨i, hik, rfl, hbel⟩ := hrel
        have hsz := hbel.size
        by_cases hlt : i < M.length
        · obtain ⟨x1, x2, x3⟩ := OwnF.cells (QD.out.below hbel) i hlt
          have IX := Lib.hid (IRc.out i hlt)
          have SX := Lib.hid (fun h0 => SSc.out h0 i hlt)
          have i0 : (0 : Int) ≤ (i : Int) := by omega
          have i1 : (i : Int) < (M.length : Int) := by omega
          obtain ⟨y, hy⟩ : ∃ y, M[i] = y := ⟨_, rfl⟩
          rw [hy] at x1 x2 x3 IX SX
          have HY := Lib.hid hy
          clear hy
          obtain ⟨ya, yb, yc⟩ := y
          dsimp only at x1 x2 x3 IX SX
          go_wp2_with fail
          refine (IX.out _).mono ?_
          rintro e wA ⟨rfl, bA⟩
          have hbelA : Below wD.heap.size wD wA := hbel.trans (bA.mono hsz)
          have hszA := hbelA.size
          clear bA x1 x2 x3
          obtain ⟨x1, x2, x3⟩ := OwnF.cells (QD.out.below hbelA) i hlt
          rw [HY.out] at x1 x2 x3
          dsimp only at x1 x2 x3
          by_cases h0 : 0 < d
          · obtain ⟨j, hj⟩ : ∃ j, (i + 1) % M.length = j := ⟨_, rfl⟩
            have hjl : j < M.length := by rw [← hj]; exact Nat.mod_lt _ hpos
            have hji : ((i : Int) + 1).tmod (M.length : Int) = (j : Int) := by
              rw [← hj, Int.tmod_eq_emod_of_nonneg (by omega)]
              exact_mod_cast rfl
            have SY := Lib.hid (SX.out h0)
            rw [hj, getD_at M _ hjl] at SY
            have hln : ¬ (M.length : Int) = 0 := by omega
            obtain ⟨t, ht⟩ : ∃ t, M[j] = t := ⟨_, rfl⟩
            rw [ht] at SY
            have HT := Lib.hid ht
            clear ht hj
            obtain ⟨ta, tb, tc⟩ := t
            dsimp only at SY
            go_wp2_with fail
            refine (SY.out _).mono ?_
            rintro e wB ⟨rfl, bB⟩
            have hbelB : Below wD.heap.size wD wB := hbelA.trans (bB.mono hszA)
            have hszB := hbelB.size
            clear bB x1 x2 x3
            go_wp2_with fail
            obtain ⟨wC, hC⟩ : ∃ w', w' = (wB.alloc (.cells #[.int .i64 ta, .int .i64 tb, .int .i64 tc] 25)) := ⟨_, rfl⟩
            have hbelC : Below wD.heap.size wD wC := by rw [hC]; exact Below.alloc hbelB hszB _
            have TC : heapAt wC wB.heap.size = some (.cells #[.int .i64 ta, .int .i64 tb, .int .i64 tc] 25 (0, 0)) := by rw [hC]; exact heapAt_new _ _
            rw [← hC]
            clear hC
            obtain ⟨y1, y2, y3⟩ := OwnF.cells (QD.out.below hbelC) j hjl
            rw [HT.out] at y1 y2 y3
            dsimp only at y1 y2 y3
            obtain ⟨zT, t1, t2, t3, u1, u2, u3⟩ := blk3 TC
            have j0 : (0 : Int) ≤ (j : Int) := by omega
            have j1 : (j : Int) < (M.length : Int) := by omega
            have n6 := neqF ta tb tc ta tb tc
            have n7 := eq6_self ta tb tc
            go_wp2_with fail
            go_quiet (fail)
            go_wp2_with fail
            go_roundg (gk - 1)
            case measure => omega
            case rel => exact ⟨i + 1, by omega, by go_num, below_drewN hbelC nq⟩
          · have hdb : decide (d > 0) = false := decide_eq_false (by omega)
            go_wp2_with fail
            go_roundg (gk - 1)
            case measure => omega
            case rel => exact ⟨i + 1, by omega, by go_num, hbelA⟩
        · have EQ : i = M.length := by omega
          go_wp2_with fail
          go_ret
          exact ⟨rfl, BD.out.trans (hbel.mono BD.out.size)⟩
end Go.Proofs.Ytolbihoeheogkaa
