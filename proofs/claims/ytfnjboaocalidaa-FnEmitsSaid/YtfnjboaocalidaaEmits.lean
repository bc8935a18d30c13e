/- A term that is emitted is the floor, and what is left is the inverse of the rest: the walk. -/
import Derived.Test.YtfnjboaocalidaaEmP
import Derived.Test.YtfnjboaocalidaaRatC
import Derived.Test.YtfnjboaocalidaaA2
namespace Go.Proofs.Ytfnjboaocalidaa
open Go.ChangeShapes Go.WideShapes Go.ChangeAt Go.RowKit
set_option linter.unusedVariables false
set_option maxHeartbeats 8000000
set_option maxRecDepth 20000
theorem stoodFr : Try.prog.stoodInHeld 39 = false := by kernel_rfl
theorem guardFr : Try.prog.eqGuardType Try.prog.depth 39 = false := by kernel_rfl
theorem fieldsFr : Try.prog.underlying 39 = some (.struct (Try.prog.fieldsOf 39)) := by kernel_rfl
theorem eqlFr (a b : Int) (w : World) : (binOp .eql 39 (.agg #[.int .i64 a, .int .i64 b]) (.agg #[.int .i64 a, .int .i64 b])).run Try.prog w = .ok (.bool true) w := by
  rw [run_eql_struct, run_equalIn_struct w 9999 39 _ _ fieldsFr stoodFr]
  simp [go_sem, Try.underlying39, Try.underlying2]
theorem neqFr (a b : Int) (w : World) : (binOp .neq 39 (.agg #[.int .i64 a, .int .i64 b]) (.agg #[.int .i64 a, .int .i64 b])).run Try.prog w = .ok (.bool false) w := by
  rw [run_neq_struct, run_equalIn_struct w 9999 39 _ _ fieldsFr stoodFr]
  simp [go_sem, Try.underlying39, Try.underlying2]
theorem endF_small {a b c d : Int} (h : SmS a b c d) : (c = 0 → endF a b c d = (zQ, 6)) ∧ (c ≠ 0 → ∃ n m, endF a b c d = (⟨n, m⟩, 0) ∧ vQ n m = true ∧ fl n m = fl a c) := by
  obtain ⟨h1, h2, h3, h4, hv⟩ := h
  constructor
  · intro h0
    unfold endF
    rw [if_pos hv, if_pos (by simp [h0])]
  · intro h0
    obtain ⟨v, q⟩ := plainQ_ok (a := a) h0 (by omega) (by omega)
    refine ⟨_, _, ?_, v, fl_low h0 (low_of h0)⟩
    unfold endF
    rw [if_pos hv, if_neg (by simp [h0]), q]
theorem walk_FnEmits (a : Option Addr) (len cap : Nat) (z : List Int) {w : World} (hr : IsRow .u8 w a len cap z) (b : Option Addr) (lenb capb : Nat) (zb : List Int) (hr2 : IsRow .u8 w b lenb capb zb) :
    Calls Try.prog 11 #[.slice a len cap, .slice b lenb capb] w fun e w' => e = .returned (.bool true) ∧ Below w.heap.size w w' := by
  have HR := Lib.hid hr.bytes
  have HR2 := Lib.hid hr2.bytes
  clear hr hr2
  have LG := Lib.hid (a2Long_any a b len lenb cap capb)
  cases hbig : (decide (3000 < len) || decide (3000 < lenb))
  case true =>
    rw [hbig] at LG
    go_enter Try.func11, Try.ntmps11
    go_wp2_with (go_at_call 34; refine (LG.out _).mono ?_; rintro e w1 ⟨rfl, rfl⟩)
    go_ret
    exact ⟨rfl, (by repeat' (first | (with_reducible exact Below.refl _ _) | (with_reducible assumption) | (with_reducible refine Below.setCell ?_ ?_ _) | (with_reducible refine Below.alloc ?_ ?_ _) | (with_reducible refine Below.drew ?_) | (with_reducible refine below_drewN ?_ _) | (with_reducible refine Below.trans ?_ (Below.mono (by with_reducible assumption) ?_)) | go_size | (simp at *; omega)))⟩
  case false =>
    rw [hbig] at LG
    simp only [Bool.or_eq_false_iff, decide_eq_false_iff_not] at hbig
    obtain ⟨hl1, hl2⟩ := hbig
    go_enter Try.func11, Try.ntmps11
    go_wp2_with (go_at_call 34; refine (LG.out _).mono ?_; rintro e w1 ⟨rfl, rfl⟩)
    go_wp2_with fail
    refine (a2State_any a len cap w HR.out (by omega)).mono ?_
    rintro e w1 ⟨s1, s2, s3, s4, rfl, hsm, b1⟩
    have B1 := Lib.hid b1
    clear b1
    have HS := Lib.hid hsm
    clear hsm
    go_wp2_with fail
    obtain ⟨w2, hW⟩ : ∃ w', w' = (w1.alloc (.cells #[.int .i64 s1, .int .i64 s2, .int .i64 s3, .int .i64 s4] 24)) := ⟨_, rfl⟩
    have bW : Below w1.heap.size w1 w2 := by rw [hW]; exact (by repeat' (first | (with_reducible exact Below.refl _ _) | (with_reducible assumption) | (with_reducible refine Below.setCell ?_ ?_ _) | (with_reducible refine Below.alloc ?_ ?_ _) | (with_reducible refine Below.drew ?_) | (with_reducible refine below_drewN ?_ _) | (with_reducible refine Below.trans ?_ (Below.mono (by with_reducible assumption) ?_)) | go_size | (simp at *; omega)))
    have S2 : Hid (heapAt w2 (w1.heap.size) = some (.cells #[.int .i64 s1, .int .i64 s2, .int .i64 s3, .int .i64 s4] 24 (0, 0))) := Lib.hid (by rw [hW]; exact heapAt_new _ _)
    have B2 : Hid (Below w.heap.size w w2) := Lib.hid (B1.out.trans (bW.mono B1.out.size))
    rw [← hW]
    clear hW bW
    refine (a2At_any b lenb capb 0 250 w.heap.size _ (HR2.out.below B2.out (Nat.le_refl _)) (by omega) (by omega) (by omega)).mono ?_
    rintro e w_ ⟨⟨x, rfl, xl, xu⟩, rfl⟩
    have ET := Lib.hid (emitTerm_any s1 s2 s3 s4)
    have EE := Lib.hid (endState_any s1 s2 s3 s4)
    have HE := Lib.hid (endF_small HS.out)
    have HEM := Lib.hid (emit_small HS.out.2.2.2.2 HS.out.1 HS.out.2.1 HS.out.2.2.1 HS.out.2.2.2.1)
    have HLW := Lib.hid (fun n (hn : 1 ≤ n ∧ n ≤ 250) q h1 h2 h3 h4 h5 h6 h7 => em_law (n := n) (q := q) HS.out.2.2.2.2 HS.out.1 HS.out.2.1 HS.out.2.2.1 HS.out.2.2.2.1 hn h1 h2 h3 h4 h5 h6 h7)
    have e1 := eqlFr
    have e2 := guardFr
    obtain ⟨n, hn⟩ : ∃ n, 1 + x = n := ⟨_, rfl⟩
    have hn1 : 1 ≤ n ∧ n ≤ 250 := by omega
    generalize emitF s1 s2 s3 s4 = E at *
    generalize endF s1 s2 s3 s4 = F at *
    obtain ⟨q, st, code⟩ := E
    obtain ⟨m1, m2, m3, m4⟩ := st
    obtain ⟨⟨f1, f2⟩, ecode⟩ := F
    have cS := S2.out
    obtain ⟨zS, pS0, pS1, pS2, pS3, fS0, fS1, fS2, fS3⟩ := blk4 cS
    go_wp2_with fail
    obtain ⟨w3, hW⟩ : ∃ w', w' = (w2.alloc (.cells #[.int .i64 n, .int .i64 1] 39)) := ⟨_, rfl⟩
    have bW : Below w2.heap.size w2 w3 := by rw [hW]; exact (by repeat' (first | (with_reducible exact Below.refl _ _) | (with_reducible assumption) | (with_reducible refine Below.setCell ?_ ?_ _) | (with_reducible refine Below.alloc ?_ ?_ _) | (with_reducible refine Below.drew ?_) | (with_reducible refine below_drewN ?_ _) | (with_reducible refine Below.trans ?_ (Below.mono (by with_reducible assumption) ?_)) | go_size | (simp at *; omega)))
    have X3 : Hid (heapAt w3 (w2.heap.size) = some (.cells #[.int .i64 n, .int .i64 1] 39 (0, 0))) := Lib.hid (by rw [hW]; exact heapAt_new _ _)
    have S3 : Hid (heapAt w3 (w1.heap.size) = some (.cells #[.int .i64 s1, .int .i64 s2, .int .i64 s3, .int .i64 s4] 24 (0, 0))) := Lib.hid (blkK S2.out bW (blk_lt S2.out))
    have B3 : Hid (Below w.heap.size w w3) := Lib.hid (B2.out.trans (bW.mono B2.out.size))
    rw [← hW]
    clear hW bW
    clear pS0 pS1 pS2 pS3 fS0 fS1 fS2 fS3 cS
    clear hn xl xu
    refine (ET.out _).mono ?_
    rintro e w4 ⟨rfl, b4⟩
    have S4 : Hid (heapAt w4 (w1.heap.size) = some (.cells #[.int .i64 s1, .int .i64 s2, .int .i64 s3, .int .i64 s4] 24 (0, 0))) := Lib.hid (blkK S3.out b4 (blk_lt S3.out))
    have X4 : Hid (heapAt w4 (w2.heap.size) = some (.cells #[.int .i64 n, .int .i64 1] 39 (0, 0))) := Lib.hid (blkK X3.out b4 (blk_lt X3.out))
    have B4 : Hid (Below w.heap.size w w4) := Lib.hid (B3.out.trans (b4.mono B3.out.size))
    clear b4
    have cS := S4.out
    obtain ⟨zS, pS0, pS1, pS2, pS3, fS0, fS1, fS2, fS3⟩ := blk4 cS
    go_wp2_with fail
    obtain ⟨w5, hW⟩ : ∃ w', w' = (w4.alloc (.cells #[.int .i64 m1, .int .i64 m2, .int .i64 m3, .int .i64 m4] 24)) := ⟨_, rfl⟩
    have bW : Below w4.heap.size w4 w5 := by rw [hW]; exact (by repeat' (first | (with_reducible exact Below.refl _ _) | (with_reducible assumption) | (with_reducible refine Below.setCell ?_ ?_ _) | (with_reducible refine Below.alloc ?_ ?_ _) | (with_reducible refine Below.drew ?_) | (with_reducible refine below_drewN ?_ _) | (with_reducible refine Below.trans ?_ (Below.mono (by with_reducible assumption) ?_)) | go_size | (simp at *; omega)))
    have N5 : Hid (heapAt w5 (w4.heap.size) = some (.cells #[.int .i64 m1, .int .i64 m2, .int .i64 m3, .int .i64 m4] 24 (0, 0))) := Lib.hid (by rw [hW]; exact heapAt_new _ _)
    have S5 : Hid (heapAt w5 (w1.heap.size) = some (.cells #[.int .i64 s1, .int .i64 s2, .int .i64 s3, .int .i64 s4] 24 (0, 0))) := Lib.hid (blkK S4.out bW (blk_lt S4.out))
    have X5 : Hid (heapAt w5 (w2.heap.size) = some (.cells #[.int .i64 n, .int .i64 1] 39 (0, 0))) := Lib.hid (blkK X4.out bW (blk_lt X4.out))
    have B5 : Hid (Below w.heap.size w w5) := Lib.hid (B4.out.trans (bW.mono B4.out.size))
    rw [← hW]
    clear hW bW
    clear pS0 pS1 pS2 pS3 fS0 fS1 fS2 fS3 cS
    refine (EE.out _).mono ?_
    rintro e w6 ⟨rfl, b6⟩
    have S6 : Hid (heapAt w6 (w1.heap.size) = some (.cells #[.int .i64 s1, .int .i64 s2, .int .i64 s3, .int .i64 s4] 24 (0, 0))) := Lib.hid (blkK S5.out b6 (blk_lt S5.out))
    have X6 : Hid (heapAt w6 (w2.heap.size) = some (.cells #[.int .i64 n, .int .i64 1] 39 (0, 0))) := Lib.hid (blkK X5.out b6 (blk_lt X5.out))
    have N6 : Hid (heapAt w6 (w4.heap.size) = some (.cells #[.int .i64 m1, .int .i64 m2, .int .i64 m3, .int .i64 m4] 24 (0, 0))) := Lib.hid (blkK N5.out b6 (blk_lt N5.out))
    have B6 : Hid (Below w.heap.size w w6) := Lib.hid (B5.out.trans (b6.mono B5.out.size))
    clear b6
    have cS := S6.out
    obtain ⟨zS, pS0, pS1, pS2, pS3, fS0, fS1, fS2, fS3⟩ := blk4 cS
    have cX := X6.out
    obtain ⟨zX, pX0, pX1, fX0, fX1⟩ := blk2 cX
    rcases HEM.out with hem | ⟨q0, hem, hv2, hq, hqf, hc0, he0, hs0, hfe⟩
    · simp only [Prod.mk.injEq] at hem
      obtain ⟨rfl, -, rfl⟩ := hem
      by_cases hc : s3 = 0
      · have hx := HE.out.1 hc
        simp only [Prod.mk.injEq] at hx
        obtain ⟨-, rfl⟩ := hx
        have hcb : (s3 != 0) = false := by simp [hc]
        clear hc
        go_wp2_with fail
        go_ret
        have b9 := B6.out
        have hz9 := b9.size
        exact ⟨rfl, (by repeat' (first | (with_reducible exact Below.refl _ _) | (with_reducible assumption) | (with_reducible refine Below.setCell ?_ ?_ _) | (with_reducible refine Below.alloc ?_ ?_ _) | (with_reducible refine Below.drew ?_) | (with_reducible refine below_drewN ?_ _) | (with_reducible refine Below.trans ?_ (Below.mono (by with_reducible assumption) ?_)) | go_size | (simp at *; omega)))⟩
      · obtain ⟨n0, m0, hx, -, -⟩ := HE.out.2 hc
        simp only [Prod.mk.injEq] at hx
        obtain ⟨-, rfl⟩ := hx
        go_wp2_with fail
        go_ret
        have b9 := B6.out
        have hz9 := b9.size
        exact ⟨rfl, (by repeat' (first | (with_reducible exact Below.refl _ _) | (with_reducible assumption) | (with_reducible refine Below.setCell ?_ ?_ _) | (with_reducible refine Below.alloc ?_ ?_ _) | (with_reducible refine Below.drew ?_) | (with_reducible refine below_drewN ?_ _) | (with_reducible refine Below.trans ?_ (Below.mono (by with_reducible assumption) ?_)) | go_size | (simp at *; omega)))⟩
    · obtain ⟨n0, m0, hx, hv0, hfl0⟩ := HE.out.2 hc0
      simp only [Prod.mk.injEq, Fr.mk.injEq, St.mk.injEq] at hem hx
      obtain ⟨rfl, ⟨rfl, rfl, rfl, rfl⟩, rfl⟩ := hem
      obtain ⟨⟨rfl, rfl⟩, rfl⟩ := hx
      obtain ⟨yN, yD, rN, rD, hL⟩ := HLW.out n hn1 q hv2 hq hqf hc0 he0 hs0 hfe
      have vn := vQ_one (n := n) (by omega)
      have SA := Lib.hid (by have h := sStateAt_any s1 s2 m1 m2 n 1 · (by omega) (by omega); rw [hL.at_] at h; exact h)
      have VS := Lib.hid (by have h := sValidState_any m1 m2 (s1 - q * m1) (s2 - q * m2); rw [hv2] at h; exact h)
      have FL1 := Lib.hid (by have h := floorOf_ok yN yD · hL.yv; rw [hL.yf] at h; exact h)
      have FL2 := Lib.hid (by have h := floorOf_ok f1 f2 · hv0; rw [hfl0, ← hqf] at h; exact h)
      have SB := Lib.hid (by have h := sSub_ok yN yD q 1 · hL.yv (vQ_one (by omega)); rw [hL.rest] at h; exact h)
      have SN := Lib.hid (stateAt_any m1 m2 (s1 - q * m1) (s2 - q * m2) n 1 · (by omega) (by omega))
      have HZ := Lib.hid hL.zero
      have HSm := Lib.hid hL.same
      have DV := Lib.hid (fun w h => sDiv_ok 1 1 rN rD w (vQ_one (by omega)) hL.rv h)
      clear hv2 hq hqf hc0 he0 hs0 hfe hv0 hfl0 hL vn
      generalize atF m1 m2 (s1 - q * m1) (s2 - q * m2) n 1 = Zt at *
      generalize s1 - q * m1 = m3 at *
      generalize s2 - q * m2 = m4 at *
      obtain ⟨⟨t1, t2⟩, t3⟩ := Zt
      go_wp2_with fail
      obtain ⟨w7, hW⟩ : ∃ w', w' = (w6.alloc (.cells #[.int .i64 f1, .int .i64 f2] 39)) := ⟨_, rfl⟩
      have bW : Below w6.heap.size w6 w7 := by rw [hW]; exact (by repeat' (first | (with_reducible exact Below.refl _ _) | (with_reducible assumption) | (with_reducible refine Below.setCell ?_ ?_ _) | (with_reducible refine Below.alloc ?_ ?_ _) | (with_reducible refine Below.drew ?_) | (with_reducible refine below_drewN ?_ _) | (with_reducible refine Below.trans ?_ (Below.mono (by with_reducible assumption) ?_)) | go_size | (simp at *; omega)))
      have Y7 : Hid (heapAt w7 (w6.heap.size) = some (.cells #[.int .i64 f1, .int .i64 f2] 39 (0, 0))) := Lib.hid (by rw [hW]; exact heapAt_new _ _)
      have S7 : Hid (heapAt w7 (w1.heap.size) = some (.cells #[.int .i64 s1, .int .i64 s2, .int .i64 m1, .int .i64 m2] 24 (0, 0))) := Lib.hid (blkK S6.out bW (blk_lt S6.out))
      have X7 : Hid (heapAt w7 (w2.heap.size) = some (.cells #[.int .i64 n, .int .i64 1] 39 (0, 0))) := Lib.hid (blkK X6.out bW (blk_lt X6.out))
      have N7 : Hid (heapAt w7 (w4.heap.size) = some (.cells #[.int .i64 m1, .int .i64 m2, .int .i64 m3, .int .i64 m4] 24 (0, 0))) := Lib.hid (blkK N6.out bW (blk_lt N6.out))
      have B7 : Hid (Below w.heap.size w w7) := Lib.hid (B6.out.trans (bW.mono B6.out.size))
      rw [← hW]
      clear hW bW
      clear pS0 pS1 pS2 pS3 fS0 fS1 fS2 fS3 cS
      clear pX0 pX1 fX0 fX1 cX
      refine (SA.out _).mono ?_
      rintro e w8 ⟨rfl, b8⟩
      have S8 : Hid (heapAt w8 (w1.heap.size) = some (.cells #[.int .i64 s1, .int .i64 s2, .int .i64 m1, .int .i64 m2] 24 (0, 0))) := Lib.hid (blkK S7.out b8 (blk_lt S7.out))
      have X8 : Hid (heapAt w8 (w2.heap.size) = some (.cells #[.int .i64 n, .int .i64 1] 39 (0, 0))) := Lib.hid (blkK X7.out b8 (blk_lt X7.out))
      have N8 : Hid (heapAt w8 (w4.heap.size) = some (.cells #[.int .i64 m1, .int .i64 m2, .int .i64 m3, .int .i64 m4] 24 (0, 0))) := Lib.hid (blkK N7.out b8 (blk_lt N7.out))
      have Y8 : Hid (heapAt w8 (w6.heap.size) = some (.cells #[.int .i64 f1, .int .i64 f2] 39 (0, 0))) := Lib.hid (blkK Y7.out b8 (blk_lt Y7.out))
      have B8 : Hid (Below w.heap.size w w8) := Lib.hid (B7.out.trans (b8.mono B7.out.size))
      clear b8
      have cN := N8.out
      obtain ⟨zN, pN0, pN1, pN2, pN3, fN0, fN1, fN2, fN3⟩ := blk4 cN
      go_wp2_with fail
      obtain ⟨w9, hW⟩ : ∃ w', w' = (w8.alloc (.cells #[.int .i64 yN, .int .i64 yD] 39)) := ⟨_, rfl⟩
      have bW : Below w8.heap.size w8 w9 := by rw [hW]; exact (by repeat' (first | (with_reducible exact Below.refl _ _) | (with_reducible assumption) | (with_reducible refine Below.setCell ?_ ?_ _) | (with_reducible refine Below.alloc ?_ ?_ _) | (with_reducible refine Below.drew ?_) | (with_reducible refine below_drewN ?_ _) | (with_reducible refine Below.trans ?_ (Below.mono (by with_reducible assumption) ?_)) | go_size | (simp at *; omega)))
      have Q9 : Hid (heapAt w9 (w8.heap.size) = some (.cells #[.int .i64 yN, .int .i64 yD] 39 (0, 0))) := Lib.hid (by rw [hW]; exact heapAt_new _ _)
      have S9 : Hid (heapAt w9 (w1.heap.size) = some (.cells #[.int .i64 s1, .int .i64 s2, .int .i64 m1, .int .i64 m2] 24 (0, 0))) := Lib.hid (blkK S8.out bW (blk_lt S8.out))
      have X9 : Hid (heapAt w9 (w2.heap.size) = some (.cells #[.int .i64 n, .int .i64 1] 39 (0, 0))) := Lib.hid (blkK X8.out bW (blk_lt X8.out))
      have N9 : Hid (heapAt w9 (w4.heap.size) = some (.cells #[.int .i64 m1, .int .i64 m2, .int .i64 m3, .int .i64 m4] 24 (0, 0))) := Lib.hid (blkK N8.out bW (blk_lt N8.out))
      have Y9 : Hid (heapAt w9 (w6.heap.size) = some (.cells #[.int .i64 f1, .int .i64 f2] 39 (0, 0))) := Lib.hid (blkK Y8.out bW (blk_lt Y8.out))
      have B9 : Hid (Below w.heap.size w w9) := Lib.hid (B8.out.trans (bW.mono B8.out.size))
      rw [← hW]
      clear hW bW
      clear pN0 pN1 pN2 pN3 fN0 fN1 fN2 fN3 cN
      refine (VS.out _).mono ?_
      rintro e w10 ⟨rfl, b10⟩
      have S10 : Hid (heapAt w10 (w1.heap.size) = some (.cells #[.int .i64 s1, .int .i64 s2, .int .i64 m1, .int .i64 m2] 24 (0, 0))) := Lib.hid (blkK S9.out b10 (blk_lt S9.out))
      have X10 : Hid (heapAt w10 (w2.heap.size) = some (.cells #[.int .i64 n, .int .i64 1] 39 (0, 0))) := Lib.hid (blkK X9.out b10 (blk_lt X9.out))
      have N10 : Hid (heapAt w10 (w4.heap.size) = some (.cells #[.int .i64 m1, .int .i64 m2, .int .i64 m3, .int .i64 m4] 24 (0, 0))) := Lib.hid (blkK N9.out b10 (blk_lt N9.out))
      have Y10 : Hid (heapAt w10 (w6.heap.size) = some (.cells #[.int .i64 f1, .int .i64 f2] 39 (0, 0))) := Lib.hid (blkK Y9.out b10 (blk_lt Y9.out))
      have Q10 : Hid (heapAt w10 (w8.heap.size) = some (.cells #[.int .i64 yN, .int .i64 yD] 39 (0, 0))) := Lib.hid (blkK Q9.out b10 (blk_lt Q9.out))
      have B10 : Hid (Below w.heap.size w w10) := Lib.hid (B9.out.trans (b10.mono B9.out.size))
      clear b10
      have cQ := Q10.out
      obtain ⟨zQ, pQ0, pQ1, fQ0, fQ1⟩ := blk2 cQ
      go_wp2_with fail
      refine (FL1.out _).mono ?_
      rintro e w11 ⟨rfl, b11⟩
      have S11 : Hid (heapAt w11 (w1.heap.size) = some (.cells #[.int .i64 s1, .int .i64 s2, .int .i64 m1, .int .i64 m2] 24 (0, 0))) := Lib.hid (blkK S10.out b11 (blk_lt S10.out))
      have X11 : Hid (heapAt w11 (w2.heap.size) = some (.cells #[.int .i64 n, .int .i64 1] 39 (0, 0))) := Lib.hid (blkK X10.out b11 (blk_lt X10.out))
      have N11 : Hid (heapAt w11 (w4.heap.size) = some (.cells #[.int .i64 m1, .int .i64 m2, .int .i64 m3, .int .i64 m4] 24 (0, 0))) := Lib.hid (blkK N10.out b11 (blk_lt N10.out))
      have Y11 : Hid (heapAt w11 (w6.heap.size) = some (.cells #[.int .i64 f1, .int .i64 f2] 39 (0, 0))) := Lib.hid (blkK Y10.out b11 (blk_lt Y10.out))
      have Q11 : Hid (heapAt w11 (w8.heap.size) = some (.cells #[.int .i64 yN, .int .i64 yD] 39 (0, 0))) := Lib.hid (blkK Q10.out b11 (blk_lt Q10.out))
      have B11 : Hid (Below w.heap.size w w11) := Lib.hid (B10.out.trans (b11.mono B10.out.size))
      clear b11
      clear pQ0 pQ1 fQ0 fQ1 cQ
      have cY := Y11.out
      obtain ⟨zY, pY0, pY1, fY0, fY1⟩ := blk2 cY
      go_wp2_with fail
      refine (FL2.out _).mono ?_
      rintro e w12 ⟨rfl, b12⟩
      have S12 : Hid (heapAt w12 (w1.heap.size) = some (.cells #[.int .i64 s1, .int .i64 s2, .int .i64 m1, .int .i64 m2] 24 (0, 0))) := Lib.hid (blkK S11.out b12 (blk_lt S11.out))
      have X12 : Hid (heapAt w12 (w2.heap.size) = some (.cells #[.int .i64 n, .int .i64 1] 39 (0, 0))) := Lib.hid (blkK X11.out b12 (blk_lt X11.out))
      have N12 : Hid (heapAt w12 (w4.heap.size) = some (.cells #[.int .i64 m1, .int .i64 m2, .int .i64 m3, .int .i64 m4] 24 (0, 0))) := Lib.hid (blkK N11.out b12 (blk_lt N11.out))
      have Y12 : Hid (heapAt w12 (w6.heap.size) = some (.cells #[.int .i64 f1, .int .i64 f2] 39 (0, 0))) := Lib.hid (blkK Y11.out b12 (blk_lt Y11.out))
      have Q12 : Hid (heapAt w12 (w8.heap.size) = some (.cells #[.int .i64 yN, .int .i64 yD] 39 (0, 0))) := Lib.hid (blkK Q11.out b12 (blk_lt Q11.out))
      have B12 : Hid (Below w.heap.size w w12) := Lib.hid (B11.out.trans (b12.mono B11.out.size))
      clear b12
      clear pY0 pY1 fY0 fY1 cY
      have cQ := Q12.out
      obtain ⟨zQ, pQ0, pQ1, fQ0, fQ1⟩ := blk2 cQ
      go_wp2_with fail
      refine (SB.out _).mono ?_
      rintro e w13 ⟨rfl, b13⟩
      have S13 : Hid (heapAt w13 (w1.heap.size) = some (.cells #[.int .i64 s1, .int .i64 s2, .int .i64 m1, .int .i64 m2] 24 (0, 0))) := Lib.hid (blkK S12.out b13 (blk_lt S12.out))
      have X13 : Hid (heapAt w13 (w2.heap.size) = some (.cells #[.int .i64 n, .int .i64 1] 39 (0, 0))) := Lib.hid (blkK X12.out b13 (blk_lt X12.out))
      have N13 : Hid (heapAt w13 (w4.heap.size) = some (.cells #[.int .i64 m1, .int .i64 m2, .int .i64 m3, .int .i64 m4] 24 (0, 0))) := Lib.hid (blkK N12.out b13 (blk_lt N12.out))
      have Y13 : Hid (heapAt w13 (w6.heap.size) = some (.cells #[.int .i64 f1, .int .i64 f2] 39 (0, 0))) := Lib.hid (blkK Y12.out b13 (blk_lt Y12.out))
      have Q13 : Hid (heapAt w13 (w8.heap.size) = some (.cells #[.int .i64 yN, .int .i64 yD] 39 (0, 0))) := Lib.hid (blkK Q12.out b13 (blk_lt Q12.out))
      have B13 : Hid (Below w.heap.size w w13) := Lib.hid (B12.out.trans (b13.mono B12.out.size))
      clear b13
      clear pQ0 pQ1 fQ0 fQ1 cQ
      have cN := N13.out
      obtain ⟨zN, pN0, pN1, pN2, pN3, fN0, fN1, fN2, fN3⟩ := blk4 cN
      have cX := X13.out
      obtain ⟨zX, pX0, pX1, fX0, fX1⟩ := blk2 cX
      go_wp2_with fail
      obtain ⟨w14, hW⟩ : ∃ w', w' = (w13.alloc (.cells #[.int .i64 rN, .int .i64 rD] 39)) := ⟨_, rfl⟩
      have bW : Below w13.heap.size w13 w14 := by rw [hW]; exact (by repeat' (first | (with_reducible exact Below.refl _ _) | (with_reducible assumption) | (with_reducible refine Below.setCell ?_ ?_ _) | (with_reducible refine Below.alloc ?_ ?_ _) | (with_reducible refine Below.drew ?_) | (with_reducible refine below_drewN ?_ _) | (with_reducible refine Below.trans ?_ (Below.mono (by with_reducible assumption) ?_)) | go_size | (simp at *; omega)))
      have R14 : Hid (heapAt w14 (w13.heap.size) = some (.cells #[.int .i64 rN, .int .i64 rD] 39 (0, 0))) := Lib.hid (by rw [hW]; exact heapAt_new _ _)
      have S14 : Hid (heapAt w14 (w1.heap.size) = some (.cells #[.int .i64 s1, .int .i64 s2, .int .i64 m1, .int .i64 m2] 24 (0, 0))) := Lib.hid (blkK S13.out bW (blk_lt S13.out))
      have X14 : Hid (heapAt w14 (w2.heap.size) = some (.cells #[.int .i64 n, .int .i64 1] 39 (0, 0))) := Lib.hid (blkK X13.out bW (blk_lt X13.out))
      have N14 : Hid (heapAt w14 (w4.heap.size) = some (.cells #[.int .i64 m1, .int .i64 m2, .int .i64 m3, .int .i64 m4] 24 (0, 0))) := Lib.hid (blkK N13.out bW (blk_lt N13.out))
      have Y14 : Hid (heapAt w14 (w6.heap.size) = some (.cells #[.int .i64 f1, .int .i64 f2] 39 (0, 0))) := Lib.hid (blkK Y13.out bW (blk_lt Y13.out))
      have Q14 : Hid (heapAt w14 (w8.heap.size) = some (.cells #[.int .i64 yN, .int .i64 yD] 39 (0, 0))) := Lib.hid (blkK Q13.out bW (blk_lt Q13.out))
      have B14 : Hid (Below w.heap.size w w14) := Lib.hid (B13.out.trans (bW.mono B13.out.size))
      rw [← hW]
      clear hW bW
      clear pN0 pN1 pN2 pN3 fN0 fN1 fN2 fN3 cN
      clear pX0 pX1 fX0 fX1 cX
      refine (SN.out _).mono ?_
      rintro e w15 ⟨rfl, b15⟩
      have S15 : Hid (heapAt w15 (w1.heap.size) = some (.cells #[.int .i64 s1, .int .i64 s2, .int .i64 m1, .int .i64 m2] 24 (0, 0))) := Lib.hid (blkK S14.out b15 (blk_lt S14.out))
      have X15 : Hid (heapAt w15 (w2.heap.size) = some (.cells #[.int .i64 n, .int .i64 1] 39 (0, 0))) := Lib.hid (blkK X14.out b15 (blk_lt X14.out))
      have N15 : Hid (heapAt w15 (w4.heap.size) = some (.cells #[.int .i64 m1, .int .i64 m2, .int .i64 m3, .int .i64 m4] 24 (0, 0))) := Lib.hid (blkK N14.out b15 (blk_lt N14.out))
      have Y15 : Hid (heapAt w15 (w6.heap.size) = some (.cells #[.int .i64 f1, .int .i64 f2] 39 (0, 0))) := Lib.hid (blkK Y14.out b15 (blk_lt Y14.out))
      have Q15 : Hid (heapAt w15 (w8.heap.size) = some (.cells #[.int .i64 yN, .int .i64 yD] 39 (0, 0))) := Lib.hid (blkK Q14.out b15 (blk_lt Q14.out))
      have R15 : Hid (heapAt w15 (w13.heap.size) = some (.cells #[.int .i64 rN, .int .i64 rD] 39 (0, 0))) := Lib.hid (blkK R14.out b15 (blk_lt R14.out))
      have B15 : Hid (Below w.heap.size w w15) := Lib.hid (B14.out.trans (b15.mono B14.out.size))
      clear b15
      have cR := R15.out
      obtain ⟨zR, pR0, pR1, fR0, fR1⟩ := blk2 cR
      by_cases h0 : rN = 0
      · have h6 := HZ.out h0
        subst h6
        have h0b : (rN == 0) = true := by simp [h0]
        clear h0
        go_wp2_with fail
        go_ret
        have b9 := B15.out
        have hz9 := b9.size
        exact ⟨rfl, (by repeat' (first | (with_reducible exact Below.refl _ _) | (with_reducible assumption) | (with_reducible refine Below.setCell ?_ ?_ _) | (with_reducible refine Below.alloc ?_ ?_ _) | (with_reducible refine Below.drew ?_) | (with_reducible refine below_drewN ?_ _) | (with_reducible refine Below.trans ?_ (Below.mono (by with_reducible assumption) ?_)) | go_size | (simp at *; omega)))⟩
      · have h0b : (rN == 0) = false := by simp [h0]
        obtain ⟨hP, ht⟩ := HSm.out h0
        subst ht
        have DV2 := Lib.hid (by have h := fun w => DV.out w h0; rw [hP] at h; exact h)
        clear hP h0
        go_wp2_with fail
        obtain ⟨w16, hW⟩ : ∃ w', w' = (w15.alloc (.cells #[.int .i64 t1, .int .i64 t2] 39)) := ⟨_, rfl⟩
        have bW : Below w15.heap.size w15 w16 := by rw [hW]; exact (by repeat' (first | (with_reducible exact Below.refl _ _) | (with_reducible assumption) | (with_reducible refine Below.setCell ?_ ?_ _) | (with_reducible refine Below.alloc ?_ ?_ _) | (with_reducible refine Below.drew ?_) | (with_reducible refine below_drewN ?_ _) | (with_reducible refine Below.trans ?_ (Below.mono (by with_reducible assumption) ?_)) | go_size | (simp at *; omega)))
        have T16 : Hid (heapAt w16 (w15.heap.size) = some (.cells #[.int .i64 t1, .int .i64 t2] 39 (0, 0))) := Lib.hid (by rw [hW]; exact heapAt_new _ _)
        have S16 : Hid (heapAt w16 (w1.heap.size) = some (.cells #[.int .i64 s1, .int .i64 s2, .int .i64 m1, .int .i64 m2] 24 (0, 0))) := Lib.hid (blkK S15.out bW (blk_lt S15.out))
        have X16 : Hid (heapAt w16 (w2.heap.size) = some (.cells #[.int .i64 n, .int .i64 1] 39 (0, 0))) := Lib.hid (blkK X15.out bW (blk_lt X15.out))
        have N16 : Hid (heapAt w16 (w4.heap.size) = some (.cells #[.int .i64 m1, .int .i64 m2, .int .i64 m3, .int .i64 m4] 24 (0, 0))) := Lib.hid (blkK N15.out bW (blk_lt N15.out))
        have Y16 : Hid (heapAt w16 (w6.heap.size) = some (.cells #[.int .i64 f1, .int .i64 f2] 39 (0, 0))) := Lib.hid (blkK Y15.out bW (blk_lt Y15.out))
        have Q16 : Hid (heapAt w16 (w8.heap.size) = some (.cells #[.int .i64 yN, .int .i64 yD] 39 (0, 0))) := Lib.hid (blkK Q15.out bW (blk_lt Q15.out))
        have R16 : Hid (heapAt w16 (w13.heap.size) = some (.cells #[.int .i64 rN, .int .i64 rD] 39 (0, 0))) := Lib.hid (blkK R15.out bW (blk_lt R15.out))
        have B16 : Hid (Below w.heap.size w w16) := Lib.hid (B15.out.trans (bW.mono B15.out.size))
        rw [← hW]
        clear hW bW
        clear pR0 pR1 fR0 fR1 cR
        refine (DV2.out _).mono ?_
        rintro e w17 ⟨rfl, b17⟩
        have S17 : Hid (heapAt w17 (w1.heap.size) = some (.cells #[.int .i64 s1, .int .i64 s2, .int .i64 m1, .int .i64 m2] 24 (0, 0))) := Lib.hid (blkK S16.out b17 (blk_lt S16.out))
        have X17 : Hid (heapAt w17 (w2.heap.size) = some (.cells #[.int .i64 n, .int .i64 1] 39 (0, 0))) := Lib.hid (blkK X16.out b17 (blk_lt X16.out))
        have N17 : Hid (heapAt w17 (w4.heap.size) = some (.cells #[.int .i64 m1, .int .i64 m2, .int .i64 m3, .int .i64 m4] 24 (0, 0))) := Lib.hid (blkK N16.out b17 (blk_lt N16.out))
        have Y17 : Hid (heapAt w17 (w6.heap.size) = some (.cells #[.int .i64 f1, .int .i64 f2] 39 (0, 0))) := Lib.hid (blkK Y16.out b17 (blk_lt Y16.out))
        have Q17 : Hid (heapAt w17 (w8.heap.size) = some (.cells #[.int .i64 yN, .int .i64 yD] 39 (0, 0))) := Lib.hid (blkK Q16.out b17 (blk_lt Q16.out))
        have R17 : Hid (heapAt w17 (w13.heap.size) = some (.cells #[.int .i64 rN, .int .i64 rD] 39 (0, 0))) := Lib.hid (blkK R16.out b17 (blk_lt R16.out))
        have T17 : Hid (heapAt w17 (w15.heap.size) = some (.cells #[.int .i64 t1, .int .i64 t2] 39 (0, 0))) := Lib.hid (blkK T16.out b17 (blk_lt T16.out))
        have B17 : Hid (Below w.heap.size w w17) := Lib.hid (B16.out.trans (b17.mono B16.out.size))
        clear b17
        have cT := T17.out
        obtain ⟨zT, pT0, pT1, fT0, fT1⟩ := blk2 cT
        go_wp2_with fail
        go_ret
        have b9 := B17.out
        have hz9 := b9.size
        exact ⟨rfl, (by repeat' (first | (with_reducible exact Below.refl _ _) | (with_reducible assumption) | (with_reducible refine Below.setCell ?_ ?_ _) | (with_reducible refine Below.alloc ?_ ?_ _) | (with_reducible refine Below.drew ?_) | (with_reducible refine below_drewN ?_ _) | (with_reducible refine Below.trans ?_ (Below.mono (by with_reducible assumption) ?_)) | go_size | (simp at *; omega)))⟩
end Go.Proofs.Ytfnjboaocalidaa
