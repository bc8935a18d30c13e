/- Feeding is replacing x, the inverse leads back, joined states are functions of functions: the walk. -/
import Derived.Test.YtfnjboaocalidaaDoorStP
import Derived.Test.YtfnjboaocalidaaDoorEmits
import Derived.Test.YtfnjboaocalidaaDoorA2F
import Derived.Test.YtfnjboaocalidaaDoorStTx
import Derived.Test.YtfnjboaocalidaaDoorStateB
namespace Go.Proofs.YtfnjboaocalidaaDoor
open Go.ChangeShapes Go.WideShapes Go.ChangeAt Go.RowKit
set_option linter.unusedVariables false
set_option maxHeartbeats 8000000
set_option maxRecDepth 20000
theorem at_is {f : FuncId} {x : Array Value} {w : World} {a b c d n m p q r : Int} (h : atF a b c d n m = (⟨p, q⟩, r)) (H : Calls Tryd.prog f x w fun e w' => e = .returned (.tuple #[.agg #[.int .i64 (atF a b c d n m).1.n, .int .i64 (atF a b c d n m).1.d], .int .i64 (atF a b c d n m).2]) ∧ Below w.heap.size w w') :
    Calls Tryd.prog f x w fun e w' => e = .returned (.tuple #[.agg #[.int .i64 p, .int .i64 q], .int .i64 r]) ∧ Below w.heap.size w w' := by
  rw [h] at H
  exact H
theorem at_eq {f : FuncId} {x : Array Value} {w : World} {a b c d n m a' b' c' d' n' m' : Int} (h : atF a' b' c' d' n' m' = atF a b c d n m) (H : Calls Tryd.prog f x w fun e w' => e = .returned (.tuple #[.agg #[.int .i64 (atF a b c d n m).1.n, .int .i64 (atF a b c d n m).1.d], .int .i64 (atF a b c d n m).2]) ∧ Below w.heap.size w w') :
    Calls Tryd.prog f x w fun e w' => e = .returned (.tuple #[.agg #[.int .i64 (atF a' b' c' d' n' m').1.n, .int .i64 (atF a' b' c' d' n' m').1.d], .int .i64 (atF a' b' c' d' n' m').2]) ∧ Below w.heap.size w w' := by
  rw [h]
  exact H
theorem backF_ok {a b c d : Int} (h : vS a b c d = true) : backF a b c d = (⟨d, -b, -c, a⟩, 0) := by unfold backF; rw [if_pos h]
theorem back_vS {a b c d : Int} (h : vS a b c d = true) : vS d (-b) (-c) a = true := by
  obtain ⟨h1, h2, h3, h4⟩ := vS_bnd h
  refine vS_mk (by omega) (by omega) (by omega) (by omega) ?_
  intro e
  apply vS_det h
  have : -b * -c = b * c := Int.neg_mul_neg b c
  rw [this, Int.mul_comm] at e
  exact e
theorem walk_FnStates (a : Option Addr) (len cap : Nat) (z : List Int) {w : World} (hr : IsRow .u8 w a len cap z) (b : Option Addr) (lenb capb : Nat) (zb : List Int) (hr2 : IsRow .u8 w b lenb capb zb) (ht : Tab w) :
    Calls Tryd.prog 4 #[.slice a len cap, .slice b lenb capb] w fun e w' => e = .returned (.bool true) ∧ Below w.heap.size w w' := by
  have HR := Lib.hid hr.bytes
  have HR2 := Lib.hid hr2.bytes
  have HT := Lib.hid ht
  clear hr hr2 ht
  have LG := Lib.hid (a2Long_any a b len lenb cap capb)
  cases hbig : (decide (3000 < len) || decide (3000 < lenb))
  case true =>
    rw [hbig] at LG
    go_enter Tryd.func4, Tryd.ntmps4
    go_wp2_with (go_at_call 8; refine (LG.out _).mono ?_; rintro e w1 ⟨rfl, rfl⟩)
    go_ret
    exact ⟨rfl, (by repeat' (first | (with_reducible exact Below.refl _ _) | (with_reducible assumption) | (with_reducible refine Below.setCell ?_ ?_ _) | (with_reducible refine Below.alloc ?_ ?_ _) | (with_reducible refine Below.drew ?_) | (with_reducible refine below_drewN ?_ _) | (with_reducible refine Below.trans ?_ (Below.mono (by with_reducible assumption) ?_)) | go_size | (simp at *; omega)))⟩
  case false =>
    rw [hbig] at LG
    simp only [Bool.or_eq_false_iff, decide_eq_false_iff_not] at hbig
    obtain ⟨hl1, hl2⟩ := hbig
    go_enter Tryd.func4, Tryd.ntmps4
    go_wp2_with (go_at_call 8; refine (LG.out _).mono ?_; rintro e w1 ⟨rfl, rfl⟩)
    go_wp2_with fail
    refine (a2State_any a len cap w HR.out (by omega)).mono ?_
    rintro e w1 ⟨s1, s2, s3, s4, rfl, hsm, b1⟩
    have B1 := Lib.hid b1
    clear b1
    have HS := Lib.hid hsm
    clear hsm
    go_wp2_with fail
    obtain ⟨w2, hW⟩ : ∃ w', w' = (w1.alloc (.cells #[.int .i64 s1, .int .i64 s2, .int .i64 s3, .int .i64 s4] 25)) := ⟨_, rfl⟩
    have bW : Below w1.heap.size w1 w2 := by rw [hW]; exact (by repeat' (first | (with_reducible exact Below.refl _ _) | (with_reducible assumption) | (with_reducible refine Below.setCell ?_ ?_ _) | (with_reducible refine Below.alloc ?_ ?_ _) | (with_reducible refine Below.drew ?_) | (with_reducible refine below_drewN ?_ _) | (with_reducible refine Below.trans ?_ (Below.mono (by with_reducible assumption) ?_)) | go_size | (simp at *; omega)))
    have S2 : Hid (heapAt w2 (w1.heap.size) = some (.cells #[.int .i64 s1, .int .i64 s2, .int .i64 s3, .int .i64 s4] 25 (0, 0))) := Lib.hid (by rw [hW]; exact heapAt_new _ _)
    have B2 : Hid (Below w.heap.size w w2) := Lib.hid (B1.out.trans (bW.mono B1.out.size))
    rw [← hW]
    clear hW bW
    refine (a2State_any b lenb capb _ ((HR2.out.below B2.out (Nat.le_refl _)).mono B2.out.size) (by omega)).mono ?_
    rintro e w3 ⟨t1, t2, t3, t4, rfl, hsm, b3⟩
    have S3 : Hid (heapAt w3 (w1.heap.size) = some (.cells #[.int .i64 s1, .int .i64 s2, .int .i64 s3, .int .i64 s4] 25 (0, 0))) := Lib.hid (blkK S2.out b3 (blk_lt S2.out))
    have B3 : Hid (Below w.heap.size w w3) := Lib.hid (B2.out.trans (b3.mono B2.out.size))
    clear b3
    have HU := Lib.hid hsm
    clear hsm
    go_wp2_with fail
    obtain ⟨w4, hW⟩ : ∃ w', w' = (w3.alloc (.cells #[.int .i64 t1, .int .i64 t2, .int .i64 t3, .int .i64 t4] 25)) := ⟨_, rfl⟩
    have bW : Below w3.heap.size w3 w4 := by rw [hW]; exact (by repeat' (first | (with_reducible exact Below.refl _ _) | (with_reducible assumption) | (with_reducible refine Below.setCell ?_ ?_ _) | (with_reducible refine Below.alloc ?_ ?_ _) | (with_reducible refine Below.drew ?_) | (with_reducible refine below_drewN ?_ _) | (with_reducible refine Below.trans ?_ (Below.mono (by with_reducible assumption) ?_)) | go_size | (simp at *; omega)))
    have T4 : Hid (heapAt w4 (w3.heap.size) = some (.cells #[.int .i64 t1, .int .i64 t2, .int .i64 t3, .int .i64 t4] 25 (0, 0))) := Lib.hid (by rw [hW]; exact heapAt_new _ _)
    have S4 : Hid (heapAt w4 (w1.heap.size) = some (.cells #[.int .i64 s1, .int .i64 s2, .int .i64 s3, .int .i64 s4] 25 (0, 0))) := Lib.hid (blkK S3.out bW (blk_lt S3.out))
    have B4 : Hid (Below w.heap.size w w4) := Lib.hid (B3.out.trans (bW.mono B3.out.size))
    rw [← hW]
    clear hW bW
    refine (a2Fractions_any b lenb capb _ ((HR2.out.below B4.out (Nat.le_refl _)).mono B4.out.size) (by omega)).mono ?_
    rintro e w5 ⟨n, m, g1, g2, g3, g4, rfl, hq, b5⟩
    have S5 : Hid (heapAt w5 (w1.heap.size) = some (.cells #[.int .i64 s1, .int .i64 s2, .int .i64 s3, .int .i64 s4] 25 (0, 0))) := Lib.hid (blkK S4.out b5 (blk_lt S4.out))
    have T5 : Hid (heapAt w5 (w3.heap.size) = some (.cells #[.int .i64 t1, .int .i64 t2, .int .i64 t3, .int .i64 t4] 25 (0, 0))) := Lib.hid (blkK T4.out b5 (blk_lt T4.out))
    have B5 : Hid (Below w.heap.size w w5) := Lib.hid (B4.out.trans (b5.mono B4.out.size))
    clear b5
    have HQ := Lib.hid hq
    clear hq
    have e1 := eqlFr
    have e2 := guardFr
    have e3 := neqFr
    by_cases hn0 : n = 0
    · have hnb : (n == 0) = true := by simp [hn0]
      clear hn0
      go_wp2_with fail
      go_ret
      have b9 := B5.out
      have hz9 := b9.size
      exact ⟨rfl, (by repeat' (first | (with_reducible exact Below.refl _ _) | (with_reducible assumption) | (with_reducible refine Below.setCell ?_ ?_ _) | (with_reducible refine Below.alloc ?_ ?_ _) | (with_reducible refine Below.drew ?_) | (with_reducible refine below_drewN ?_ _) | (with_reducible refine Below.trans ?_ (Below.mono (by with_reducible assumption) ?_)) | go_size | (simp at *; omega)))⟩
    · have hnb : (n == 0) = false := by simp [hn0]
      have HN0 := Lib.hid hn0
      clear hn0
      go_wp2_with fail
      obtain ⟨w6, hW⟩ : ∃ w', w' = ((w5.alloc (.cells #[.int .i64 n, .int .i64 m] 32)).alloc (.cells #[.int .i64 g1, .int .i64 g2] 32)).alloc (.cells #[.int .i64 g3, .int .i64 g4] 32) := ⟨_, rfl⟩
      have bW : Below w5.heap.size w5 w6 := by rw [hW]; exact (by repeat' (first | (with_reducible exact Below.refl _ _) | (with_reducible assumption) | (with_reducible refine Below.setCell ?_ ?_ _) | (with_reducible refine Below.alloc ?_ ?_ _) | (with_reducible refine Below.drew ?_) | (with_reducible refine below_drewN ?_ _) | (with_reducible refine Below.trans ?_ (Below.mono (by with_reducible assumption) ?_)) | go_size | (simp at *; omega)))
      have X6 : Hid (heapAt w6 w5.heap.size = some (.cells #[.int .i64 n, .int .i64 m] 32 (0, 0))) := Lib.hid (by rw [hW]; exact (heapAt_old (by rw [World.size_alloc, World.size_alloc]; omega)).trans ((heapAt_old (by rw [World.size_alloc]; omega)).trans (heapAt_new _ _)))
      have S6 : Hid (heapAt w6 (w1.heap.size) = some (.cells #[.int .i64 s1, .int .i64 s2, .int .i64 s3, .int .i64 s4] 25 (0, 0))) := Lib.hid (blkK S5.out bW (blk_lt S5.out))
      have T6 : Hid (heapAt w6 (w3.heap.size) = some (.cells #[.int .i64 t1, .int .i64 t2, .int .i64 t3, .int .i64 t4] 25 (0, 0))) := Lib.hid (blkK T5.out bW (blk_lt T5.out))
      have B6 : Hid (Below w.heap.size w w6) := Lib.hid (B5.out.trans (bW.mono B5.out.size))
      rw [← hW]
      clear hW bW hnb
      refine (a2At_any a len cap 0 20 w.heap.size _ (HR.out.below B6.out (Nat.le_refl _)) (by omega) (by omega) (by omega)).mono ?_
      rintro e w_ ⟨⟨x, rfl, xl, xu⟩, rfl⟩
      obtain ⟨k, hk⟩ : ∃ k, x - 5 = k := ⟨_, rfl⟩
      have HFL := Lib.hid (feed_law (k := k) HS.out.2.2.2.2 HS.out.1 HS.out.2.1 HS.out.2.2.1 HS.out.2.2.2.1 (by omega) HQ.out.2.2 HQ.out.1 HQ.out.2.1 HN0.out)
      obtain ⟨hfd, iN, iD, tN, tD, hi1, hi2, ha1, ha2, hat⟩ := HFL.out
      have hqb := vQ_b HQ.out.2.2
      have hib := vQ_b hi2
      have htb := vQ_b ha2
      have FT := Lib.hid (by have h := feedTerm_any s1 s2 s3 s4 k; rw [hfd] at h; exact h)
      have DV := Lib.hid (by have h := sDiv_ok 1 1 n m · (vQ_one (by omega)) HQ.out.2.2 HN0.out; rw [hi1] at h; exact h)
      have AD := Lib.hid (by have h := sAdd_ok k 1 iN iD · (vQ_one (by omega)) hi2; rw [ha1] at h; exact h)
      have PA := Lib.hid (by have h := stateAt_any (s1 * k + s2) s1 (s3 * k + s4) s3 n m · (by omega) (by omega); rw [hat] at h; exact h)
      have QA := Lib.hid (stateAt_any s1 s2 s3 s4 tN tD · (by omega) (by omega))
      have TX := Lib.hid (iST_any s1 s2 s3 s4)
      have HTX : Hid (stR s1 s2 s3 s4 ≠ ⟨#[]⟩) := Lib.hid (by unfold stR; rw [if_pos HS.out.2.2.2.2]; exact stT_ne _ _ _ _)
      have BK := Lib.hid (by have h := backState_any s1 s2 s3 s4; rw [backF_ok HS.out.2.2.2.2] at h; exact h)
      have YA := Lib.hid (sStateAt_any s1 s2 s3 s4 n m · (by omega) (by omega))
      have HBL := Lib.hid (fun y1 y2 h => back_law (yN := y1) (yD := y2) HS.out.2.2.2.2 HS.out.1 HS.out.2.1 HS.out.2.2.1 HS.out.2.2.2.1 HQ.out.2.2 HQ.out.1 HQ.out.2.1 h)
      have VB := Lib.hid (by have h := sValidState_any s4 (-s2) (-s3) s1; rw [back_vS HS.out.2.2.2.2] at h; exact h)
      obtain ⟨jA, jB, jC, jD, hj1, hj2, hj3⟩ := join_law HS.out.2.2.2.2 HU.out.2.2.2.2 HS.out.1 HS.out.2.1 HS.out.2.2.1 HS.out.2.2.2.1 HU.out.1 HU.out.2.1 HU.out.2.2.1 HU.out.2.2.2.1 HQ.out.2.2 HQ.out.1 HQ.out.2.1
      have HJ3 := Lib.hid hj3
      have JS := Lib.hid (by have h := joinStates_any s1 s2 s3 s4 t1 t2 t3 t4; rw [hj1] at h; exact h)
      have VJ := Lib.hid (by have h := sValidState_any jA jB jC jD; rw [hj2] at h; exact h)
      have NA := Lib.hid (sStateAt_any t1 t2 t3 t4 n m · (by omega) (by omega))
      have UA := Lib.hid (stateAt_any jA jB jC jD n m · (by omega) (by omega))
      have SAT := Lib.hid (fun y1 y2 (h : vQ y1 y2 = true) w => sStateAt_any s1 s2 s3 s4 y1 y2 w (by have := vQ_b h; omega) (by have := vQ_b h; omega))
      have ZAT := Lib.hid (fun y1 y2 (h : vQ y1 y2 = true) w => stateAt_any s4 (-s2) (-s3) s1 y1 y2 w (by have := vQ_b h; omega) (by have := vQ_b h; omega))
      clear hfd hi1 hi2 ha1 ha2 hat hj1 hj2 hj3 HFL
      generalize hYA : atF s1 s2 s3 s4 n m = Yt at *
      generalize hNA : atF t1 t2 t3 t4 n m = Nt at *
      have HYA := Lib.hid hYA
      have HNA := Lib.hid hNA
      clear hYA hNA
      generalize atF s1 s2 s3 s4 tN tD = Pt at *
      generalize stR s1 s2 s3 s4 = R at *
      generalize s1 * k + s2 = f1 at *
      generalize s3 * k + s4 = f3 at *
      obtain ⟨⟨p1, p2⟩, p3⟩ := Pt
      obtain ⟨⟨y1, y2⟩, y3⟩ := Yt
      obtain ⟨⟨i1, i2⟩, i3⟩ := Nt
      have hR1 : ¬ R = ⟨#[]⟩ := HTX.out
      have hR2 : ¬ R.toList = [] := fun h => HTX.out (by rw [Lib.toList_data] at h; apply ByteArray.ext; apply Array.ext'; exact h)
      have hR3 : decide (R.toList = []) = false := decide_eq_false hR2
      have hR4 : R.toList.isEmpty = false := by rw [List.isEmpty_eq_false_iff]; exact hR2
      have hR2 : decide (R = ⟨#[]⟩) = false := decide_eq_false hR1
      clear hqb hib htb
      have cS := S6.out
      obtain ⟨zS, pS0, pS1, pS2, pS3, fS0, fS1, fS2, fS3⟩ := blk4 cS
      go_wp2_with fail
      refine (FT.out _).mono ?_
      rintro e w7 ⟨rfl, b7⟩
      have S7 : Hid (heapAt w7 (w1.heap.size) = some (.cells #[.int .i64 s1, .int .i64 s2, .int .i64 s3, .int .i64 s4] 25 (0, 0))) := Lib.hid (blkK S6.out b7 (blk_lt S6.out))
      have T7 : Hid (heapAt w7 (w3.heap.size) = some (.cells #[.int .i64 t1, .int .i64 t2, .int .i64 t3, .int .i64 t4] 25 (0, 0))) := Lib.hid (blkK T6.out b7 (blk_lt T6.out))
      have X7 : Hid (heapAt w7 (w5.heap.size) = some (.cells #[.int .i64 n, .int .i64 m] 32 (0, 0))) := Lib.hid (blkK X6.out b7 (blk_lt X6.out))
      have B7 : Hid (Below w.heap.size w w7) := Lib.hid (B6.out.trans (b7.mono B6.out.size))
      clear b7
      clear pS0 pS1 pS2 pS3 fS0 fS1 fS2 fS3 cS
      clear hk xl xu
      have cX := X7.out
      obtain ⟨zX, pX0, pX1, fX0, fX1⟩ := blk2 cX
      go_wp2_with fail
      obtain ⟨w8, hW⟩ : ∃ w', w' = (w7.alloc (.cells #[.int .i64 f1, .int .i64 s1, .int .i64 f3, .int .i64 s3] 25)) := ⟨_, rfl⟩
      have bW : Below w7.heap.size w7 w8 := by rw [hW]; exact (by repeat' (first | (with_reducible exact Below.refl _ _) | (with_reducible assumption) | (with_reducible refine Below.setCell ?_ ?_ _) | (with_reducible refine Below.alloc ?_ ?_ _) | (with_reducible refine Below.drew ?_) | (with_reducible refine below_drewN ?_ _) | (with_reducible refine Below.trans ?_ (Below.mono (by with_reducible assumption) ?_)) | go_size | (simp at *; omega)))
      have F8 : Hid (heapAt w8 (w7.heap.size) = some (.cells #[.int .i64 f1, .int .i64 s1, .int .i64 f3, .int .i64 s3] 25 (0, 0))) := Lib.hid (by rw [hW]; exact heapAt_new _ _)
      have S8 : Hid (heapAt w8 (w1.heap.size) = some (.cells #[.int .i64 s1, .int .i64 s2, .int .i64 s3, .int .i64 s4] 25 (0, 0))) := Lib.hid (blkK S7.out bW (blk_lt S7.out))
      have T8 : Hid (heapAt w8 (w3.heap.size) = some (.cells #[.int .i64 t1, .int .i64 t2, .int .i64 t3, .int .i64 t4] 25 (0, 0))) := Lib.hid (blkK T7.out bW (blk_lt T7.out))
      have X8 : Hid (heapAt w8 (w5.heap.size) = some (.cells #[.int .i64 n, .int .i64 m] 32 (0, 0))) := Lib.hid (blkK X7.out bW (blk_lt X7.out))
      have B8 : Hid (Below w.heap.size w w8) := Lib.hid (B7.out.trans (bW.mono B7.out.size))
      rw [← hW]
      clear hW bW
      clear pX0 pX1 fX0 fX1 cX
      refine (DV.out _).mono ?_
      rintro e w9 ⟨rfl, b9⟩
      have S9 : Hid (heapAt w9 (w1.heap.size) = some (.cells #[.int .i64 s1, .int .i64 s2, .int .i64 s3, .int .i64 s4] 25 (0, 0))) := Lib.hid (blkK S8.out b9 (blk_lt S8.out))
      have T9 : Hid (heapAt w9 (w3.heap.size) = some (.cells #[.int .i64 t1, .int .i64 t2, .int .i64 t3, .int .i64 t4] 25 (0, 0))) := Lib.hid (blkK T8.out b9 (blk_lt T8.out))
      have X9 : Hid (heapAt w9 (w5.heap.size) = some (.cells #[.int .i64 n, .int .i64 m] 32 (0, 0))) := Lib.hid (blkK X8.out b9 (blk_lt X8.out))
      have F9 : Hid (heapAt w9 (w7.heap.size) = some (.cells #[.int .i64 f1, .int .i64 s1, .int .i64 f3, .int .i64 s3] 25 (0, 0))) := Lib.hid (blkK F8.out b9 (blk_lt F8.out))
      have B9 : Hid (Below w.heap.size w w9) := Lib.hid (B8.out.trans (b9.mono B8.out.size))
      clear b9
      go_wp2_with fail
      obtain ⟨w10, hW⟩ : ∃ w', w' = (w9.alloc (.cells #[.int .i64 iN, .int .i64 iD] 32)) := ⟨_, rfl⟩
      have bW : Below w9.heap.size w9 w10 := by rw [hW]; exact (by repeat' (first | (with_reducible exact Below.refl _ _) | (with_reducible assumption) | (with_reducible refine Below.setCell ?_ ?_ _) | (with_reducible refine Below.alloc ?_ ?_ _) | (with_reducible refine Below.drew ?_) | (with_reducible refine below_drewN ?_ _) | (with_reducible refine Below.trans ?_ (Below.mono (by with_reducible assumption) ?_)) | go_size | (simp at *; omega)))
      have I10 : Hid (heapAt w10 (w9.heap.size) = some (.cells #[.int .i64 iN, .int .i64 iD] 32 (0, 0))) := Lib.hid (by rw [hW]; exact heapAt_new _ _)
      have S10 : Hid (heapAt w10 (w1.heap.size) = some (.cells #[.int .i64 s1, .int .i64 s2, .int .i64 s3, .int .i64 s4] 25 (0, 0))) := Lib.hid (blkK S9.out bW (blk_lt S9.out))
      have T10 : Hid (heapAt w10 (w3.heap.size) = some (.cells #[.int .i64 t1, .int .i64 t2, .int .i64 t3, .int .i64 t4] 25 (0, 0))) := Lib.hid (blkK T9.out bW (blk_lt T9.out))
      have X10 : Hid (heapAt w10 (w5.heap.size) = some (.cells #[.int .i64 n, .int .i64 m] 32 (0, 0))) := Lib.hid (blkK X9.out bW (blk_lt X9.out))
      have F10 : Hid (heapAt w10 (w7.heap.size) = some (.cells #[.int .i64 f1, .int .i64 s1, .int .i64 f3, .int .i64 s3] 25 (0, 0))) := Lib.hid (blkK F9.out bW (blk_lt F9.out))
      have B10 : Hid (Below w.heap.size w w10) := Lib.hid (B9.out.trans (bW.mono B9.out.size))
      rw [← hW]
      clear hW bW
      refine (AD.out _).mono ?_
      rintro e w11 ⟨rfl, b11⟩
      have S11 : Hid (heapAt w11 (w1.heap.size) = some (.cells #[.int .i64 s1, .int .i64 s2, .int .i64 s3, .int .i64 s4] 25 (0, 0))) := Lib.hid (blkK S10.out b11 (blk_lt S10.out))
      have T11 : Hid (heapAt w11 (w3.heap.size) = some (.cells #[.int .i64 t1, .int .i64 t2, .int .i64 t3, .int .i64 t4] 25 (0, 0))) := Lib.hid (blkK T10.out b11 (blk_lt T10.out))
      have X11 : Hid (heapAt w11 (w5.heap.size) = some (.cells #[.int .i64 n, .int .i64 m] 32 (0, 0))) := Lib.hid (blkK X10.out b11 (blk_lt X10.out))
      have F11 : Hid (heapAt w11 (w7.heap.size) = some (.cells #[.int .i64 f1, .int .i64 s1, .int .i64 f3, .int .i64 s3] 25 (0, 0))) := Lib.hid (blkK F10.out b11 (blk_lt F10.out))
      have I11 : Hid (heapAt w11 (w9.heap.size) = some (.cells #[.int .i64 iN, .int .i64 iD] 32 (0, 0))) := Lib.hid (blkK I10.out b11 (blk_lt I10.out))
      have B11 : Hid (Below w.heap.size w w11) := Lib.hid (B10.out.trans (b11.mono B10.out.size))
      clear b11
      have cF := F11.out
      obtain ⟨zF, pF0, pF1, pF2, pF3, fF0, fF1, fF2, fF3⟩ := blk4 cF
      have cX := X11.out
      obtain ⟨zX, pX0, pX1, fX0, fX1⟩ := blk2 cX
      go_wp2_with fail
      obtain ⟨w12, hW⟩ : ∃ w', w' = (w11.alloc (.cells #[.int .i64 tN, .int .i64 tD] 32)) := ⟨_, rfl⟩
      have bW : Below w11.heap.size w11 w12 := by rw [hW]; exact (by repeat' (first | (with_reducible exact Below.refl _ _) | (with_reducible assumption) | (with_reducible refine Below.setCell ?_ ?_ _) | (with_reducible refine Below.alloc ?_ ?_ _) | (with_reducible refine Below.drew ?_) | (with_reducible refine below_drewN ?_ _) | (with_reducible refine Below.trans ?_ (Below.mono (by with_reducible assumption) ?_)) | go_size | (simp at *; omega)))
      have A12 : Hid (heapAt w12 (w11.heap.size) = some (.cells #[.int .i64 tN, .int .i64 tD] 32 (0, 0))) := Lib.hid (by rw [hW]; exact heapAt_new _ _)
      have S12 : Hid (heapAt w12 (w1.heap.size) = some (.cells #[.int .i64 s1, .int .i64 s2, .int .i64 s3, .int .i64 s4] 25 (0, 0))) := Lib.hid (blkK S11.out bW (blk_lt S11.out))
      have T12 : Hid (heapAt w12 (w3.heap.size) = some (.cells #[.int .i64 t1, .int .i64 t2, .int .i64 t3, .int .i64 t4] 25 (0, 0))) := Lib.hid (blkK T11.out bW (blk_lt T11.out))
      have X12 : Hid (heapAt w12 (w5.heap.size) = some (.cells #[.int .i64 n, .int .i64 m] 32 (0, 0))) := Lib.hid (blkK X11.out bW (blk_lt X11.out))
      have F12 : Hid (heapAt w12 (w7.heap.size) = some (.cells #[.int .i64 f1, .int .i64 s1, .int .i64 f3, .int .i64 s3] 25 (0, 0))) := Lib.hid (blkK F11.out bW (blk_lt F11.out))
      have I12 : Hid (heapAt w12 (w9.heap.size) = some (.cells #[.int .i64 iN, .int .i64 iD] 32 (0, 0))) := Lib.hid (blkK I11.out bW (blk_lt I11.out))
      have B12 : Hid (Below w.heap.size w w12) := Lib.hid (B11.out.trans (bW.mono B11.out.size))
      rw [← hW]
      clear hW bW
      clear pF0 pF1 pF2 pF3 fF0 fF1 fF2 fF3 cF
      clear pX0 pX1 fX0 fX1 cX
      refine (PA.out _).mono ?_
      rintro e w13 ⟨rfl, b13⟩
      have S13 : Hid (heapAt w13 (w1.heap.size) = some (.cells #[.int .i64 s1, .int .i64 s2, .int .i64 s3, .int .i64 s4] 25 (0, 0))) := Lib.hid (blkK S12.out b13 (blk_lt S12.out))
      have T13 : Hid (heapAt w13 (w3.heap.size) = some (.cells #[.int .i64 t1, .int .i64 t2, .int .i64 t3, .int .i64 t4] 25 (0, 0))) := Lib.hid (blkK T12.out b13 (blk_lt T12.out))
      have X13 : Hid (heapAt w13 (w5.heap.size) = some (.cells #[.int .i64 n, .int .i64 m] 32 (0, 0))) := Lib.hid (blkK X12.out b13 (blk_lt X12.out))
      have F13 : Hid (heapAt w13 (w7.heap.size) = some (.cells #[.int .i64 f1, .int .i64 s1, .int .i64 f3, .int .i64 s3] 25 (0, 0))) := Lib.hid (blkK F12.out b13 (blk_lt F12.out))
      have I13 : Hid (heapAt w13 (w9.heap.size) = some (.cells #[.int .i64 iN, .int .i64 iD] 32 (0, 0))) := Lib.hid (blkK I12.out b13 (blk_lt I12.out))
      have A13 : Hid (heapAt w13 (w11.heap.size) = some (.cells #[.int .i64 tN, .int .i64 tD] 32 (0, 0))) := Lib.hid (blkK A12.out b13 (blk_lt A12.out))
      have B13 : Hid (Below w.heap.size w w13) := Lib.hid (B12.out.trans (b13.mono B12.out.size))
      clear b13
      have cS := S13.out
      obtain ⟨zS, pS0, pS1, pS2, pS3, fS0, fS1, fS2, fS3⟩ := blk4 cS
      have cA := A13.out
      obtain ⟨zA, pA0, pA1, fA0, fA1⟩ := blk2 cA
      go_wp2_with fail
      obtain ⟨w14, hW⟩ : ∃ w', w' = (w13.alloc (.cells #[.int .i64 p1, .int .i64 p2] 32)) := ⟨_, rfl⟩
      have bW : Below w13.heap.size w13 w14 := by rw [hW]; exact (by repeat' (first | (with_reducible exact Below.refl _ _) | (with_reducible assumption) | (with_reducible refine Below.setCell ?_ ?_ _) | (with_reducible refine Below.alloc ?_ ?_ _) | (with_reducible refine Below.drew ?_) | (with_reducible refine below_drewN ?_ _) | (with_reducible refine Below.trans ?_ (Below.mono (by with_reducible assumption) ?_)) | go_size | (simp at *; omega)))
      have P14 : Hid (heapAt w14 (w13.heap.size) = some (.cells #[.int .i64 p1, .int .i64 p2] 32 (0, 0))) := Lib.hid (by rw [hW]; exact heapAt_new _ _)
      have S14 : Hid (heapAt w14 (w1.heap.size) = some (.cells #[.int .i64 s1, .int .i64 s2, .int .i64 s3, .int .i64 s4] 25 (0, 0))) := Lib.hid (blkK S13.out bW (blk_lt S13.out))
      have T14 : Hid (heapAt w14 (w3.heap.size) = some (.cells #[.int .i64 t1, .int .i64 t2, .int .i64 t3, .int .i64 t4] 25 (0, 0))) := Lib.hid (blkK T13.out bW (blk_lt T13.out))
      have X14 : Hid (heapAt w14 (w5.heap.size) = some (.cells #[.int .i64 n, .int .i64 m] 32 (0, 0))) := Lib.hid (blkK X13.out bW (blk_lt X13.out))
      have F14 : Hid (heapAt w14 (w7.heap.size) = some (.cells #[.int .i64 f1, .int .i64 s1, .int .i64 f3, .int .i64 s3] 25 (0, 0))) := Lib.hid (blkK F13.out bW (blk_lt F13.out))
      have I14 : Hid (heapAt w14 (w9.heap.size) = some (.cells #[.int .i64 iN, .int .i64 iD] 32 (0, 0))) := Lib.hid (blkK I13.out bW (blk_lt I13.out))
      have A14 : Hid (heapAt w14 (w11.heap.size) = some (.cells #[.int .i64 tN, .int .i64 tD] 32 (0, 0))) := Lib.hid (blkK A13.out bW (blk_lt A13.out))
      have B14 : Hid (Below w.heap.size w w14) := Lib.hid (B13.out.trans (bW.mono B13.out.size))
      rw [← hW]
      clear hW bW
      clear pS0 pS1 pS2 pS3 fS0 fS1 fS2 fS3 cS
      clear pA0 pA1 fA0 fA1 cA
      refine (QA.out _).mono ?_
      rintro e w15 ⟨rfl, b15⟩
      have S15 : Hid (heapAt w15 (w1.heap.size) = some (.cells #[.int .i64 s1, .int .i64 s2, .int .i64 s3, .int .i64 s4] 25 (0, 0))) := Lib.hid (blkK S14.out b15 (blk_lt S14.out))
      have T15 : Hid (heapAt w15 (w3.heap.size) = some (.cells #[.int .i64 t1, .int .i64 t2, .int .i64 t3, .int .i64 t4] 25 (0, 0))) := Lib.hid (blkK T14.out b15 (blk_lt T14.out))
      have X15 : Hid (heapAt w15 (w5.heap.size) = some (.cells #[.int .i64 n, .int .i64 m] 32 (0, 0))) := Lib.hid (blkK X14.out b15 (blk_lt X14.out))
      have F15 : Hid (heapAt w15 (w7.heap.size) = some (.cells #[.int .i64 f1, .int .i64 s1, .int .i64 f3, .int .i64 s3] 25 (0, 0))) := Lib.hid (blkK F14.out b15 (blk_lt F14.out))
      have I15 : Hid (heapAt w15 (w9.heap.size) = some (.cells #[.int .i64 iN, .int .i64 iD] 32 (0, 0))) := Lib.hid (blkK I14.out b15 (blk_lt I14.out))
      have A15 : Hid (heapAt w15 (w11.heap.size) = some (.cells #[.int .i64 tN, .int .i64 tD] 32 (0, 0))) := Lib.hid (blkK A14.out b15 (blk_lt A14.out))
      have P15 : Hid (heapAt w15 (w13.heap.size) = some (.cells #[.int .i64 p1, .int .i64 p2] 32 (0, 0))) := Lib.hid (blkK P14.out b15 (blk_lt P14.out))
      have B15 : Hid (Below w.heap.size w w15) := Lib.hid (B14.out.trans (b15.mono B14.out.size))
      clear b15
      have cP := P15.out
      obtain ⟨zP, pP0, pP1, fP0, fP1⟩ := blk2 cP
      have cS := S15.out
      obtain ⟨zS, pS0, pS1, pS2, pS3, fS0, fS1, fS2, fS3⟩ := blk4 cS
      go_wp2_with fail
      obtain ⟨w16, hW⟩ : ∃ w', w' = (w15.alloc (.cells #[.int .i64 p1, .int .i64 p2] 32)) := ⟨_, rfl⟩
      have bW : Below w15.heap.size w15 w16 := by rw [hW]; exact (by repeat' (first | (with_reducible exact Below.refl _ _) | (with_reducible assumption) | (with_reducible refine Below.setCell ?_ ?_ _) | (with_reducible refine Below.alloc ?_ ?_ _) | (with_reducible refine Below.drew ?_) | (with_reducible refine below_drewN ?_ _) | (with_reducible refine Below.trans ?_ (Below.mono (by with_reducible assumption) ?_)) | go_size | (simp at *; omega)))
      have Q16 : Hid (heapAt w16 (w15.heap.size) = some (.cells #[.int .i64 p1, .int .i64 p2] 32 (0, 0))) := Lib.hid (by rw [hW]; exact heapAt_new _ _)
      have S16 : Hid (heapAt w16 (w1.heap.size) = some (.cells #[.int .i64 s1, .int .i64 s2, .int .i64 s3, .int .i64 s4] 25 (0, 0))) := Lib.hid (blkK S15.out bW (blk_lt S15.out))
      have T16 : Hid (heapAt w16 (w3.heap.size) = some (.cells #[.int .i64 t1, .int .i64 t2, .int .i64 t3, .int .i64 t4] 25 (0, 0))) := Lib.hid (blkK T15.out bW (blk_lt T15.out))
      have X16 : Hid (heapAt w16 (w5.heap.size) = some (.cells #[.int .i64 n, .int .i64 m] 32 (0, 0))) := Lib.hid (blkK X15.out bW (blk_lt X15.out))
      have F16 : Hid (heapAt w16 (w7.heap.size) = some (.cells #[.int .i64 f1, .int .i64 s1, .int .i64 f3, .int .i64 s3] 25 (0, 0))) := Lib.hid (blkK F15.out bW (blk_lt F15.out))
      have I16 : Hid (heapAt w16 (w9.heap.size) = some (.cells #[.int .i64 iN, .int .i64 iD] 32 (0, 0))) := Lib.hid (blkK I15.out bW (blk_lt I15.out))
      have A16 : Hid (heapAt w16 (w11.heap.size) = some (.cells #[.int .i64 tN, .int .i64 tD] 32 (0, 0))) := Lib.hid (blkK A15.out bW (blk_lt A15.out))
      have P16 : Hid (heapAt w16 (w13.heap.size) = some (.cells #[.int .i64 p1, .int .i64 p2] 32 (0, 0))) := Lib.hid (blkK P15.out bW (blk_lt P15.out))
      have B16 : Hid (Below w.heap.size w w16) := Lib.hid (B15.out.trans (bW.mono B15.out.size))
      rw [← hW]
      clear hW bW
      clear pP0 pP1 fP0 fP1 cP
      clear pS0 pS1 pS2 pS3 fS0 fS1 fS2 fS3 cS
      refine (TX.out _ (HT.out.below B16.out)).mono ?_
      rintro e w17 ⟨rfl, b17⟩
      have S17 : Hid (heapAt w17 (w1.heap.size) = some (.cells #[.int .i64 s1, .int .i64 s2, .int .i64 s3, .int .i64 s4] 25 (0, 0))) := Lib.hid (blkK S16.out b17 (blk_lt S16.out))
      have T17 : Hid (heapAt w17 (w3.heap.size) = some (.cells #[.int .i64 t1, .int .i64 t2, .int .i64 t3, .int .i64 t4] 25 (0, 0))) := Lib.hid (blkK T16.out b17 (blk_lt T16.out))
      have X17 : Hid (heapAt w17 (w5.heap.size) = some (.cells #[.int .i64 n, .int .i64 m] 32 (0, 0))) := Lib.hid (blkK X16.out b17 (blk_lt X16.out))
      have F17 : Hid (heapAt w17 (w7.heap.size) = some (.cells #[.int .i64 f1, .int .i64 s1, .int .i64 f3, .int .i64 s3] 25 (0, 0))) := Lib.hid (blkK F16.out b17 (blk_lt F16.out))
      have I17 : Hid (heapAt w17 (w9.heap.size) = some (.cells #[.int .i64 iN, .int .i64 iD] 32 (0, 0))) := Lib.hid (blkK I16.out b17 (blk_lt I16.out))
      have A17 : Hid (heapAt w17 (w11.heap.size) = some (.cells #[.int .i64 tN, .int .i64 tD] 32 (0, 0))) := Lib.hid (blkK A16.out b17 (blk_lt A16.out))
      have P17 : Hid (heapAt w17 (w13.heap.size) = some (.cells #[.int .i64 p1, .int .i64 p2] 32 (0, 0))) := Lib.hid (blkK P16.out b17 (blk_lt P16.out))
      have Q17 : Hid (heapAt w17 (w15.heap.size) = some (.cells #[.int .i64 p1, .int .i64 p2] 32 (0, 0))) := Lib.hid (blkK Q16.out b17 (blk_lt Q16.out))
      have B17 : Hid (Below w.heap.size w w17) := Lib.hid (B16.out.trans (b17.mono B16.out.size))
      clear b17
      have cS := S17.out
      obtain ⟨zS, pS0, pS1, pS2, pS3, fS0, fS1, fS2, fS3⟩ := blk4 cS
      go_wp2_with fail
      refine (BK.out _).mono ?_
      rintro e w18 ⟨rfl, b18⟩
      have S18 : Hid (heapAt w18 (w1.heap.size) = some (.cells #[.int .i64 s1, .int .i64 s2, .int .i64 s3, .int .i64 s4] 25 (0, 0))) := Lib.hid (blkK S17.out b18 (blk_lt S17.out))
      have T18 : Hid (heapAt w18 (w3.heap.size) = some (.cells #[.int .i64 t1, .int .i64 t2, .int .i64 t3, .int .i64 t4] 25 (0, 0))) := Lib.hid (blkK T17.out b18 (blk_lt T17.out))
      have X18 : Hid (heapAt w18 (w5.heap.size) = some (.cells #[.int .i64 n, .int .i64 m] 32 (0, 0))) := Lib.hid (blkK X17.out b18 (blk_lt X17.out))
      have F18 : Hid (heapAt w18 (w7.heap.size) = some (.cells #[.int .i64 f1, .int .i64 s1, .int .i64 f3, .int .i64 s3] 25 (0, 0))) := Lib.hid (blkK F17.out b18 (blk_lt F17.out))
      have I18 : Hid (heapAt w18 (w9.heap.size) = some (.cells #[.int .i64 iN, .int .i64 iD] 32 (0, 0))) := Lib.hid (blkK I17.out b18 (blk_lt I17.out))
      have A18 : Hid (heapAt w18 (w11.heap.size) = some (.cells #[.int .i64 tN, .int .i64 tD] 32 (0, 0))) := Lib.hid (blkK A17.out b18 (blk_lt A17.out))
      have P18 : Hid (heapAt w18 (w13.heap.size) = some (.cells #[.int .i64 p1, .int .i64 p2] 32 (0, 0))) := Lib.hid (blkK P17.out b18 (blk_lt P17.out))
      have Q18 : Hid (heapAt w18 (w15.heap.size) = some (.cells #[.int .i64 p1, .int .i64 p2] 32 (0, 0))) := Lib.hid (blkK Q17.out b18 (blk_lt Q17.out))
      have B18 : Hid (Below w.heap.size w w18) := Lib.hid (B17.out.trans (b18.mono B17.out.size))
      clear b18
      clear pS0 pS1 pS2 pS3 fS0 fS1 fS2 fS3 cS
      clear hR1 hR2
      have cS := S18.out
      obtain ⟨zS, pS0, pS1, pS2, pS3, fS0, fS1, fS2, fS3⟩ := blk4 cS
      have cX := X18.out
      obtain ⟨zX, pX0, pX1, fX0, fX1⟩ := blk2 cX
      go_wp2_with fail
      obtain ⟨w19, hW⟩ : ∃ w', w' = (w18.alloc (.cells #[.int .i64 s4, .int .i64 (-s2), .int .i64 (-s3), .int .i64 s1] 25)) := ⟨_, rfl⟩
      have bW : Below w18.heap.size w18 w19 := by rw [hW]; exact (by repeat' (first | (with_reducible exact Below.refl _ _) | (with_reducible assumption) | (with_reducible refine Below.setCell ?_ ?_ _) | (with_reducible refine Below.alloc ?_ ?_ _) | (with_reducible refine Below.drew ?_) | (with_reducible refine below_drewN ?_ _) | (with_reducible refine Below.trans ?_ (Below.mono (by with_reducible assumption) ?_)) | go_size | (simp at *; omega)))
      have K19 : Hid (heapAt w19 (w18.heap.size) = some (.cells #[.int .i64 s4, .int .i64 (-s2), .int .i64 (-s3), .int .i64 s1] 25 (0, 0))) := Lib.hid (by rw [hW]; exact heapAt_new _ _)
      have S19 : Hid (heapAt w19 (w1.heap.size) = some (.cells #[.int .i64 s1, .int .i64 s2, .int .i64 s3, .int .i64 s4] 25 (0, 0))) := Lib.hid (blkK S18.out bW (blk_lt S18.out))
      have T19 : Hid (heapAt w19 (w3.heap.size) = some (.cells #[.int .i64 t1, .int .i64 t2, .int .i64 t3, .int .i64 t4] 25 (0, 0))) := Lib.hid (blkK T18.out bW (blk_lt T18.out))
      have X19 : Hid (heapAt w19 (w5.heap.size) = some (.cells #[.int .i64 n, .int .i64 m] 32 (0, 0))) := Lib.hid (blkK X18.out bW (blk_lt X18.out))
      have F19 : Hid (heapAt w19 (w7.heap.size) = some (.cells #[.int .i64 f1, .int .i64 s1, .int .i64 f3, .int .i64 s3] 25 (0, 0))) := Lib.hid (blkK F18.out bW (blk_lt F18.out))
      have I19 : Hid (heapAt w19 (w9.heap.size) = some (.cells #[.int .i64 iN, .int .i64 iD] 32 (0, 0))) := Lib.hid (blkK I18.out bW (blk_lt I18.out))
      have A19 : Hid (heapAt w19 (w11.heap.size) = some (.cells #[.int .i64 tN, .int .i64 tD] 32 (0, 0))) := Lib.hid (blkK A18.out bW (blk_lt A18.out))
      have P19 : Hid (heapAt w19 (w13.heap.size) = some (.cells #[.int .i64 p1, .int .i64 p2] 32 (0, 0))) := Lib.hid (blkK P18.out bW (blk_lt P18.out))
      have Q19 : Hid (heapAt w19 (w15.heap.size) = some (.cells #[.int .i64 p1, .int .i64 p2] 32 (0, 0))) := Lib.hid (blkK Q18.out bW (blk_lt Q18.out))
      have B19 : Hid (Below w.heap.size w w19) := Lib.hid (B18.out.trans (bW.mono B18.out.size))
      rw [← hW]
      clear hW bW
      clear pS0 pS1 pS2 pS3 fS0 fS1 fS2 fS3 cS
      clear pX0 pX1 fX0 fX1 cX
      refine (YA.out _).mono ?_
      rintro e w20 ⟨rfl, b20⟩
      have S20 : Hid (heapAt w20 (w1.heap.size) = some (.cells #[.int .i64 s1, .int .i64 s2, .int .i64 s3, .int .i64 s4] 25 (0, 0))) := Lib.hid (blkK S19.out b20 (blk_lt S19.out))
      have T20 : Hid (heapAt w20 (w3.heap.size) = some (.cells #[.int .i64 t1, .int .i64 t2, .int .i64 t3, .int .i64 t4] 25 (0, 0))) := Lib.hid (blkK T19.out b20 (blk_lt T19.out))
      have X20 : Hid (heapAt w20 (w5.heap.size) = some (.cells #[.int .i64 n, .int .i64 m] 32 (0, 0))) := Lib.hid (blkK X19.out b20 (blk_lt X19.out))
      have F20 : Hid (heapAt w20 (w7.heap.size) = some (.cells #[.int .i64 f1, .int .i64 s1, .int .i64 f3, .int .i64 s3] 25 (0, 0))) := Lib.hid (blkK F19.out b20 (blk_lt F19.out))
      have I20 : Hid (heapAt w20 (w9.heap.size) = some (.cells #[.int .i64 iN, .int .i64 iD] 32 (0, 0))) := Lib.hid (blkK I19.out b20 (blk_lt I19.out))
      have A20 : Hid (heapAt w20 (w11.heap.size) = some (.cells #[.int .i64 tN, .int .i64 tD] 32 (0, 0))) := Lib.hid (blkK A19.out b20 (blk_lt A19.out))
      have P20 : Hid (heapAt w20 (w13.heap.size) = some (.cells #[.int .i64 p1, .int .i64 p2] 32 (0, 0))) := Lib.hid (blkK P19.out b20 (blk_lt P19.out))
      have Q20 : Hid (heapAt w20 (w15.heap.size) = some (.cells #[.int .i64 p1, .int .i64 p2] 32 (0, 0))) := Lib.hid (blkK Q19.out b20 (blk_lt Q19.out))
      have K20 : Hid (heapAt w20 (w18.heap.size) = some (.cells #[.int .i64 s4, .int .i64 (-s2), .int .i64 (-s3), .int .i64 s1] 25 (0, 0))) := Lib.hid (blkK K19.out b20 (blk_lt K19.out))
      have B20 : Hid (Below w.heap.size w w20) := Lib.hid (B19.out.trans (b20.mono B19.out.size))
      clear b20
      have cK := K20.out
      obtain ⟨zK, pK0, pK1, pK2, pK3, fK0, fK1, fK2, fK3⟩ := blk4 cK
      go_wp2_with fail
      obtain ⟨w21, hW⟩ : ∃ w', w' = (w20.alloc (.cells #[.int .i64 y1, .int .i64 y2] 32)) := ⟨_, rfl⟩
      have bW : Below w20.heap.size w20 w21 := by rw [hW]; exact (by repeat' (first | (with_reducible exact Below.refl _ _) | (with_reducible assumption) | (with_reducible refine Below.setCell ?_ ?_ _) | (with_reducible refine Below.alloc ?_ ?_ _) | (with_reducible refine Below.drew ?_) | (with_reducible refine below_drewN ?_ _) | (with_reducible refine Below.trans ?_ (Below.mono (by with_reducible assumption) ?_)) | go_size | (simp at *; omega)))
      have Y21 : Hid (heapAt w21 (w20.heap.size) = some (.cells #[.int .i64 y1, .int .i64 y2] 32 (0, 0))) := Lib.hid (by rw [hW]; exact heapAt_new _ _)
      have S21 : Hid (heapAt w21 (w1.heap.size) = some (.cells #[.int .i64 s1, .int .i64 s2, .int .i64 s3, .int .i64 s4] 25 (0, 0))) := Lib.hid (blkK S20.out bW (blk_lt S20.out))
      have T21 : Hid (heapAt w21 (w3.heap.size) = some (.cells #[.int .i64 t1, .int .i64 t2, .int .i64 t3, .int .i64 t4] 25 (0, 0))) := Lib.hid (blkK T20.out bW (blk_lt T20.out))
      have X21 : Hid (heapAt w21 (w5.heap.size) = some (.cells #[.int .i64 n, .int .i64 m] 32 (0, 0))) := Lib.hid (blkK X20.out bW (blk_lt X20.out))
      have F21 : Hid (heapAt w21 (w7.heap.size) = some (.cells #[.int .i64 f1, .int .i64 s1, .int .i64 f3, .int .i64 s3] 25 (0, 0))) := Lib.hid (blkK F20.out bW (blk_lt F20.out))
      have I21 : Hid (heapAt w21 (w9.heap.size) = some (.cells #[.int .i64 iN, .int .i64 iD] 32 (0, 0))) := Lib.hid (blkK I20.out bW (blk_lt I20.out))
      have A21 : Hid (heapAt w21 (w11.heap.size) = some (.cells #[.int .i64 tN, .int .i64 tD] 32 (0, 0))) := Lib.hid (blkK A20.out bW (blk_lt A20.out))
      have P21 : Hid (heapAt w21 (w13.heap.size) = some (.cells #[.int .i64 p1, .int .i64 p2] 32 (0, 0))) := Lib.hid (blkK P20.out bW (blk_lt P20.out))
      have Q21 : Hid (heapAt w21 (w15.heap.size) = some (.cells #[.int .i64 p1, .int .i64 p2] 32 (0, 0))) := Lib.hid (blkK Q20.out bW (blk_lt Q20.out))
      have K21 : Hid (heapAt w21 (w18.heap.size) = some (.cells #[.int .i64 s4, .int .i64 (-s2), .int .i64 (-s3), .int .i64 s1] 25 (0, 0))) := Lib.hid (blkK K20.out bW (blk_lt K20.out))
      have B21 : Hid (Below w.heap.size w w21) := Lib.hid (B20.out.trans (bW.mono B20.out.size))
      rw [← hW]
      clear hW bW
      clear pK0 pK1 pK2 pK3 fK0 fK1 fK2 fK3 cK
      refine (VB.out _).mono ?_
      rintro e w22 ⟨rfl, b22⟩
      have S22 : Hid (heapAt w22 (w1.heap.size) = some (.cells #[.int .i64 s1, .int .i64 s2, .int .i64 s3, .int .i64 s4] 25 (0, 0))) := Lib.hid (blkK S21.out b22 (blk_lt S21.out))
      have T22 : Hid (heapAt w22 (w3.heap.size) = some (.cells #[.int .i64 t1, .int .i64 t2, .int .i64 t3, .int .i64 t4] 25 (0, 0))) := Lib.hid (blkK T21.out b22 (blk_lt T21.out))
      have X22 : Hid (heapAt w22 (w5.heap.size) = some (.cells #[.int .i64 n, .int .i64 m] 32 (0, 0))) := Lib.hid (blkK X21.out b22 (blk_lt X21.out))
      have F22 : Hid (heapAt w22 (w7.heap.size) = some (.cells #[.int .i64 f1, .int .i64 s1, .int .i64 f3, .int .i64 s3] 25 (0, 0))) := Lib.hid (blkK F21.out b22 (blk_lt F21.out))
      have I22 : Hid (heapAt w22 (w9.heap.size) = some (.cells #[.int .i64 iN, .int .i64 iD] 32 (0, 0))) := Lib.hid (blkK I21.out b22 (blk_lt I21.out))
      have A22 : Hid (heapAt w22 (w11.heap.size) = some (.cells #[.int .i64 tN, .int .i64 tD] 32 (0, 0))) := Lib.hid (blkK A21.out b22 (blk_lt A21.out))
      have P22 : Hid (heapAt w22 (w13.heap.size) = some (.cells #[.int .i64 p1, .int .i64 p2] 32 (0, 0))) := Lib.hid (blkK P21.out b22 (blk_lt P21.out))
      have Q22 : Hid (heapAt w22 (w15.heap.size) = some (.cells #[.int .i64 p1, .int .i64 p2] 32 (0, 0))) := Lib.hid (blkK Q21.out b22 (blk_lt Q21.out))
      have K22 : Hid (heapAt w22 (w18.heap.size) = some (.cells #[.int .i64 s4, .int .i64 (-s2), .int .i64 (-s3), .int .i64 s1] 25 (0, 0))) := Lib.hid (blkK K21.out b22 (blk_lt K21.out))
      have Y22 : Hid (heapAt w22 (w20.heap.size) = some (.cells #[.int .i64 y1, .int .i64 y2] 32 (0, 0))) := Lib.hid (blkK Y21.out b22 (blk_lt Y21.out))
      have B22 : Hid (Below w.heap.size w w22) := Lib.hid (B21.out.trans (b22.mono B21.out.size))
      clear b22
      by_cases hy3 : y3 = 0
      · subst hy3
        obtain ⟨hv8, hz8⟩ := HBL.out _ _ rfl
        have ZA := Lib.hid (fun w => at_is hz8 (ZAT.out y1 y2 hv8 w))
        clear hv8 hz8
        have cK := K22.out
        obtain ⟨zK, pK0, pK1, pK2, pK3, fK0, fK1, fK2, fK3⟩ := blk4 cK
        have cY := Y22.out
        obtain ⟨zY, pY0, pY1, fY0, fY1⟩ := blk2 cY
        go_wp2_with fail
        refine (ZA.out _).mono ?_
        rintro e w23 ⟨rfl, b23⟩
        have S23 : Hid (heapAt w23 (w1.heap.size) = some (.cells #[.int .i64 s1, .int .i64 s2, .int .i64 s3, .int .i64 s4] 25 (0, 0))) := Lib.hid (blkK S22.out b23 (blk_lt S22.out))
        have T23 : Hid (heapAt w23 (w3.heap.size) = some (.cells #[.int .i64 t1, .int .i64 t2, .int .i64 t3, .int .i64 t4] 25 (0, 0))) := Lib.hid (blkK T22.out b23 (blk_lt T22.out))
        have X23 : Hid (heapAt w23 (w5.heap.size) = some (.cells #[.int .i64 n, .int .i64 m] 32 (0, 0))) := Lib.hid (blkK X22.out b23 (blk_lt X22.out))
        have F23 : Hid (heapAt w23 (w7.heap.size) = some (.cells #[.int .i64 f1, .int .i64 s1, .int .i64 f3, .int .i64 s3] 25 (0, 0))) := Lib.hid (blkK F22.out b23 (blk_lt F22.out))
        have I23 : Hid (heapAt w23 (w9.heap.size) = some (.cells #[.int .i64 iN, .int .i64 iD] 32 (0, 0))) := Lib.hid (blkK I22.out b23 (blk_lt I22.out))
        have A23 : Hid (heapAt w23 (w11.heap.size) = some (.cells #[.int .i64 tN, .int .i64 tD] 32 (0, 0))) := Lib.hid (blkK A22.out b23 (blk_lt A22.out))
        have P23 : Hid (heapAt w23 (w13.heap.size) = some (.cells #[.int .i64 p1, .int .i64 p2] 32 (0, 0))) := Lib.hid (blkK P22.out b23 (blk_lt P22.out))
        have Q23 : Hid (heapAt w23 (w15.heap.size) = some (.cells #[.int .i64 p1, .int .i64 p2] 32 (0, 0))) := Lib.hid (blkK Q22.out b23 (blk_lt Q22.out))
        have K23 : Hid (heapAt w23 (w18.heap.size) = some (.cells #[.int .i64 s4, .int .i64 (-s2), .int .i64 (-s3), .int .i64 s1] 25 (0, 0))) := Lib.hid (blkK K22.out b23 (blk_lt K22.out))
        have Y23 : Hid (heapAt w23 (w20.heap.size) = some (.cells #[.int .i64 y1, .int .i64 y2] 32 (0, 0))) := Lib.hid (blkK Y22.out b23 (blk_lt Y22.out))
        have B23 : Hid (Below w.heap.size w w23) := Lib.hid (B22.out.trans (b23.mono B22.out.size))
        clear b23
        clear pK0 pK1 pK2 pK3 fK0 fK1 fK2 fK3 cK
        clear pY0 pY1 fY0 fY1 cY
        have cX := X23.out
        obtain ⟨zX, pX0, pX1, fX0, fX1⟩ := blk2 cX
        have cS := S23.out
        obtain ⟨zS, pS0, pS1, pS2, pS3, fS0, fS1, fS2, fS3⟩ := blk4 cS
        have cT := T23.out
        obtain ⟨zT, pT0, pT1, pT2, pT3, fT0, fT1, fT2, fT3⟩ := blk4 cT
        go_wp2_with fail
        obtain ⟨w24, hW⟩ : ∃ w', w' = (w23.alloc (.cells #[.int .i64 n, .int .i64 m] 32)) := ⟨_, rfl⟩
        have bW : Below w23.heap.size w23 w24 := by rw [hW]; exact (by repeat' (first | (with_reducible exact Below.refl _ _) | (with_reducible assumption) | (with_reducible refine Below.setCell ?_ ?_ _) | (with_reducible refine Below.alloc ?_ ?_ _) | (with_reducible refine Below.drew ?_) | (with_reducible refine below_drewN ?_ _) | (with_reducible refine Below.trans ?_ (Below.mono (by with_reducible assumption) ?_)) | go_size | (simp at *; omega)))
        have Z24 : Hid (heapAt w24 (w23.heap.size) = some (.cells #[.int .i64 n, .int .i64 m] 32 (0, 0))) := Lib.hid (by rw [hW]; exact heapAt_new _ _)
        have S24 : Hid (heapAt w24 (w1.heap.size) = some (.cells #[.int .i64 s1, .int .i64 s2, .int .i64 s3, .int .i64 s4] 25 (0, 0))) := Lib.hid (blkK S23.out bW (blk_lt S23.out))
        have T24 : Hid (heapAt w24 (w3.heap.size) = some (.cells #[.int .i64 t1, .int .i64 t2, .int .i64 t3, .int .i64 t4] 25 (0, 0))) := Lib.hid (blkK T23.out bW (blk_lt T23.out))
        have X24 : Hid (heapAt w24 (w5.heap.size) = some (.cells #[.int .i64 n, .int .i64 m] 32 (0, 0))) := Lib.hid (blkK X23.out bW (blk_lt X23.out))
        have F24 : Hid (heapAt w24 (w7.heap.size) = some (.cells #[.int .i64 f1, .int .i64 s1, .int .i64 f3, .int .i64 s3] 25 (0, 0))) := Lib.hid (blkK F23.out bW (blk_lt F23.out))
        have I24 : Hid (heapAt w24 (w9.heap.size) = some (.cells #[.int .i64 iN, .int .i64 iD] 32 (0, 0))) := Lib.hid (blkK I23.out bW (blk_lt I23.out))
        have A24 : Hid (heapAt w24 (w11.heap.size) = some (.cells #[.int .i64 tN, .int .i64 tD] 32 (0, 0))) := Lib.hid (blkK A23.out bW (blk_lt A23.out))
        have P24 : Hid (heapAt w24 (w13.heap.size) = some (.cells #[.int .i64 p1, .int .i64 p2] 32 (0, 0))) := Lib.hid (blkK P23.out bW (blk_lt P23.out))
        have Q24 : Hid (heapAt w24 (w15.heap.size) = some (.cells #[.int .i64 p1, .int .i64 p2] 32 (0, 0))) := Lib.hid (blkK Q23.out bW (blk_lt Q23.out))
        have K24 : Hid (heapAt w24 (w18.heap.size) = some (.cells #[.int .i64 s4, .int .i64 (-s2), .int .i64 (-s3), .int .i64 s1] 25 (0, 0))) := Lib.hid (blkK K23.out bW (blk_lt K23.out))
        have Y24 : Hid (heapAt w24 (w20.heap.size) = some (.cells #[.int .i64 y1, .int .i64 y2] 32 (0, 0))) := Lib.hid (blkK Y23.out bW (blk_lt Y23.out))
        have B24 : Hid (Below w.heap.size w w24) := Lib.hid (B23.out.trans (bW.mono B23.out.size))
        rw [← hW]
        clear hW bW
        clear pX0 pX1 fX0 fX1 cX
        clear pS0 pS1 pS2 pS3 fS0 fS1 fS2 fS3 cS
        clear pT0 pT1 pT2 pT3 fT0 fT1 fT2 fT3 cT
        refine (JS.out _).mono ?_
        rintro e w25 ⟨rfl, b25⟩
        have S25 : Hid (heapAt w25 (w1.heap.size) = some (.cells #[.int .i64 s1, .int .i64 s2, .int .i64 s3, .int .i64 s4] 25 (0, 0))) := Lib.hid (blkK S24.out b25 (blk_lt S24.out))
        have T25 : Hid (heapAt w25 (w3.heap.size) = some (.cells #[.int .i64 t1, .int .i64 t2, .int .i64 t3, .int .i64 t4] 25 (0, 0))) := Lib.hid (blkK T24.out b25 (blk_lt T24.out))
        have X25 : Hid (heapAt w25 (w5.heap.size) = some (.cells #[.int .i64 n, .int .i64 m] 32 (0, 0))) := Lib.hid (blkK X24.out b25 (blk_lt X24.out))
        have F25 : Hid (heapAt w25 (w7.heap.size) = some (.cells #[.int .i64 f1, .int .i64 s1, .int .i64 f3, .int .i64 s3] 25 (0, 0))) := Lib.hid (blkK F24.out b25 (blk_lt F24.out))
        have I25 : Hid (heapAt w25 (w9.heap.size) = some (.cells #[.int .i64 iN, .int .i64 iD] 32 (0, 0))) := Lib.hid (blkK I24.out b25 (blk_lt I24.out))
        have A25 : Hid (heapAt w25 (w11.heap.size) = some (.cells #[.int .i64 tN, .int .i64 tD] 32 (0, 0))) := Lib.hid (blkK A24.out b25 (blk_lt A24.out))
        have P25 : Hid (heapAt w25 (w13.heap.size) = some (.cells #[.int .i64 p1, .int .i64 p2] 32 (0, 0))) := Lib.hid (blkK P24.out b25 (blk_lt P24.out))
        have Q25 : Hid (heapAt w25 (w15.heap.size) = some (.cells #[.int .i64 p1, .int .i64 p2] 32 (0, 0))) := Lib.hid (blkK Q24.out b25 (blk_lt Q24.out))
        have K25 : Hid (heapAt w25 (w18.heap.size) = some (.cells #[.int .i64 s4, .int .i64 (-s2), .int .i64 (-s3), .int .i64 s1] 25 (0, 0))) := Lib.hid (blkK K24.out b25 (blk_lt K24.out))
        have Y25 : Hid (heapAt w25 (w20.heap.size) = some (.cells #[.int .i64 y1, .int .i64 y2] 32 (0, 0))) := Lib.hid (blkK Y24.out b25 (blk_lt Y24.out))
        have Z25 : Hid (heapAt w25 (w23.heap.size) = some (.cells #[.int .i64 n, .int .i64 m] 32 (0, 0))) := Lib.hid (blkK Z24.out b25 (blk_lt Z24.out))
        have B25 : Hid (Below w.heap.size w w25) := Lib.hid (B24.out.trans (b25.mono B24.out.size))
        clear b25
        have cT := T25.out
        obtain ⟨zT, pT0, pT1, pT2, pT3, fT0, fT1, fT2, fT3⟩ := blk4 cT
        have cX := X25.out
        obtain ⟨zX, pX0, pX1, fX0, fX1⟩ := blk2 cX
        go_wp2_with fail
        obtain ⟨w26, hW⟩ : ∃ w', w' = (w25.alloc (.cells #[.int .i64 jA, .int .i64 jB, .int .i64 jC, .int .i64 jD] 25)) := ⟨_, rfl⟩
        have bW : Below w25.heap.size w25 w26 := by rw [hW]; exact (by repeat' (first | (with_reducible exact Below.refl _ _) | (with_reducible assumption) | (with_reducible refine Below.setCell ?_ ?_ _) | (with_reducible refine Below.alloc ?_ ?_ _) | (with_reducible refine Below.drew ?_) | (with_reducible refine below_drewN ?_ _) | (with_reducible refine Below.trans ?_ (Below.mono (by with_reducible assumption) ?_)) | go_size | (simp at *; omega)))
        have J26 : Hid (heapAt w26 (w25.heap.size) = some (.cells #[.int .i64 jA, .int .i64 jB, .int .i64 jC, .int .i64 jD] 25 (0, 0))) := Lib.hid (by rw [hW]; exact heapAt_new _ _)
        have S26 : Hid (heapAt w26 (w1.heap.size) = some (.cells #[.int .i64 s1, .int .i64 s2, .int .i64 s3, .int .i64 s4] 25 (0, 0))) := Lib.hid (blkK S25.out bW (blk_lt S25.out))
        have T26 : Hid (heapAt w26 (w3.heap.size) = some (.cells #[.int .i64 t1, .int .i64 t2, .int .i64 t3, .int .i64 t4] 25 (0, 0))) := Lib.hid (blkK T25.out bW (blk_lt T25.out))
        have X26 : Hid (heapAt w26 (w5.heap.size) = some (.cells #[.int .i64 n, .int .i64 m] 32 (0, 0))) := Lib.hid (blkK X25.out bW (blk_lt X25.out))
        have F26 : Hid (heapAt w26 (w7.heap.size) = some (.cells #[.int .i64 f1, .int .i64 s1, .int .i64 f3, .int .i64 s3] 25 (0, 0))) := Lib.hid (blkK F25.out bW (blk_lt F25.out))
        have I26 : Hid (heapAt w26 (w9.heap.size) = some (.cells #[.int .i64 iN, .int .i64 iD] 32 (0, 0))) := Lib.hid (blkK I25.out bW (blk_lt I25.out))
        have A26 : Hid (heapAt w26 (w11.heap.size) = some (.cells #[.int .i64 tN, .int .i64 tD] 32 (0, 0))) := Lib.hid (blkK A25.out bW (blk_lt A25.out))
        have P26 : Hid (heapAt w26 (w13.heap.size) = some (.cells #[.int .i64 p1, .int .i64 p2] 32 (0, 0))) := Lib.hid (blkK P25.out bW (blk_lt P25.out))
        have Q26 : Hid (heapAt w26 (w15.heap.size) = some (.cells #[.int .i64 p1, .int .i64 p2] 32 (0, 0))) := Lib.hid (blkK Q25.out bW (blk_lt Q25.out))
        have K26 : Hid (heapAt w26 (w18.heap.size) = some (.cells #[.int .i64 s4, .int .i64 (-s2), .int .i64 (-s3), .int .i64 s1] 25 (0, 0))) := Lib.hid (blkK K25.out bW (blk_lt K25.out))
        have Y26 : Hid (heapAt w26 (w20.heap.size) = some (.cells #[.int .i64 y1, .int .i64 y2] 32 (0, 0))) := Lib.hid (blkK Y25.out bW (blk_lt Y25.out))
        have Z26 : Hid (heapAt w26 (w23.heap.size) = some (.cells #[.int .i64 n, .int .i64 m] 32 (0, 0))) := Lib.hid (blkK Z25.out bW (blk_lt Z25.out))
        have B26 : Hid (Below w.heap.size w w26) := Lib.hid (B25.out.trans (bW.mono B25.out.size))
        rw [← hW]
        clear hW bW
        clear pT0 pT1 pT2 pT3 fT0 fT1 fT2 fT3 cT
        clear pX0 pX1 fX0 fX1 cX
        refine (NA.out _).mono ?_
        rintro e w27 ⟨rfl, b27⟩
        have S27 : Hid (heapAt w27 (w1.heap.size) = some (.cells #[.int .i64 s1, .int .i64 s2, .int .i64 s3, .int .i64 s4] 25 (0, 0))) := Lib.hid (blkK S26.out b27 (blk_lt S26.out))
        have T27 : Hid (heapAt w27 (w3.heap.size) = some (.cells #[.int .i64 t1, .int .i64 t2, .int .i64 t3, .int .i64 t4] 25 (0, 0))) := Lib.hid (blkK T26.out b27 (blk_lt T26.out))
        have X27 : Hid (heapAt w27 (w5.heap.size) = some (.cells #[.int .i64 n, .int .i64 m] 32 (0, 0))) := Lib.hid (blkK X26.out b27 (blk_lt X26.out))
        have F27 : Hid (heapAt w27 (w7.heap.size) = some (.cells #[.int .i64 f1, .int .i64 s1, .int .i64 f3, .int .i64 s3] 25 (0, 0))) := Lib.hid (blkK F26.out b27 (blk_lt F26.out))
        have I27 : Hid (heapAt w27 (w9.heap.size) = some (.cells #[.int .i64 iN, .int .i64 iD] 32 (0, 0))) := Lib.hid (blkK I26.out b27 (blk_lt I26.out))
        have A27 : Hid (heapAt w27 (w11.heap.size) = some (.cells #[.int .i64 tN, .int .i64 tD] 32 (0, 0))) := Lib.hid (blkK A26.out b27 (blk_lt A26.out))
        have P27 : Hid (heapAt w27 (w13.heap.size) = some (.cells #[.int .i64 p1, .int .i64 p2] 32 (0, 0))) := Lib.hid (blkK P26.out b27 (blk_lt P26.out))
        have Q27 : Hid (heapAt w27 (w15.heap.size) = some (.cells #[.int .i64 p1, .int .i64 p2] 32 (0, 0))) := Lib.hid (blkK Q26.out b27 (blk_lt Q26.out))
        have K27 : Hid (heapAt w27 (w18.heap.size) = some (.cells #[.int .i64 s4, .int .i64 (-s2), .int .i64 (-s3), .int .i64 s1] 25 (0, 0))) := Lib.hid (blkK K26.out b27 (blk_lt K26.out))
        have Y27 : Hid (heapAt w27 (w20.heap.size) = some (.cells #[.int .i64 y1, .int .i64 y2] 32 (0, 0))) := Lib.hid (blkK Y26.out b27 (blk_lt Y26.out))
        have Z27 : Hid (heapAt w27 (w23.heap.size) = some (.cells #[.int .i64 n, .int .i64 m] 32 (0, 0))) := Lib.hid (blkK Z26.out b27 (blk_lt Z26.out))
        have J27 : Hid (heapAt w27 (w25.heap.size) = some (.cells #[.int .i64 jA, .int .i64 jB, .int .i64 jC, .int .i64 jD] 25 (0, 0))) := Lib.hid (blkK J26.out b27 (blk_lt J26.out))
        have B27 : Hid (Below w.heap.size w w27) := Lib.hid (B26.out.trans (b27.mono B26.out.size))
        clear b27
        have cJ := J27.out
        obtain ⟨zJ, pJ0, pJ1, pJ2, pJ3, fJ0, fJ1, fJ2, fJ3⟩ := blk4 cJ
        go_wp2_with fail
        obtain ⟨w28, hW⟩ : ∃ w', w' = (w27.alloc (.cells #[.int .i64 i1, .int .i64 i2] 32)) := ⟨_, rfl⟩
        have bW : Below w27.heap.size w27 w28 := by rw [hW]; exact (by repeat' (first | (with_reducible exact Below.refl _ _) | (with_reducible assumption) | (with_reducible refine Below.setCell ?_ ?_ _) | (with_reducible refine Below.alloc ?_ ?_ _) | (with_reducible refine Below.drew ?_) | (with_reducible refine below_drewN ?_ _) | (with_reducible refine Below.trans ?_ (Below.mono (by with_reducible assumption) ?_)) | go_size | (simp at *; omega)))
        have N28 : Hid (heapAt w28 (w27.heap.size) = some (.cells #[.int .i64 i1, .int .i64 i2] 32 (0, 0))) := Lib.hid (by rw [hW]; exact heapAt_new _ _)
        have S28 : Hid (heapAt w28 (w1.heap.size) = some (.cells #[.int .i64 s1, .int .i64 s2, .int .i64 s3, .int .i64 s4] 25 (0, 0))) := Lib.hid (blkK S27.out bW (blk_lt S27.out))
        have T28 : Hid (heapAt w28 (w3.heap.size) = some (.cells #[.int .i64 t1, .int .i64 t2, .int .i64 t3, .int .i64 t4] 25 (0, 0))) := Lib.hid (blkK T27.out bW (blk_lt T27.out))
        have X28 : Hid (heapAt w28 (w5.heap.size) = some (.cells #[.int .i64 n, .int .i64 m] 32 (0, 0))) := Lib.hid (blkK X27.out bW (blk_lt X27.out))
        have F28 : Hid (heapAt w28 (w7.heap.size) = some (.cells #[.int .i64 f1, .int .i64 s1, .int .i64 f3, .int .i64 s3] 25 (0, 0))) := Lib.hid (blkK F27.out bW (blk_lt F27.out))
        have I28 : Hid (heapAt w28 (w9.heap.size) = some (.cells #[.int .i64 iN, .int .i64 iD] 32 (0, 0))) := Lib.hid (blkK I27.out bW (blk_lt I27.out))
        have A28 : Hid (heapAt w28 (w11.heap.size) = some (.cells #[.int .i64 tN, .int .i64 tD] 32 (0, 0))) := Lib.hid (blkK A27.out bW (blk_lt A27.out))
        have P28 : Hid (heapAt w28 (w13.heap.size) = some (.cells #[.int .i64 p1, .int .i64 p2] 32 (0, 0))) := Lib.hid (blkK P27.out bW (blk_lt P27.out))
        have Q28 : Hid (heapAt w28 (w15.heap.size) = some (.cells #[.int .i64 p1, .int .i64 p2] 32 (0, 0))) := Lib.hid (blkK Q27.out bW (blk_lt Q27.out))
        have K28 : Hid (heapAt w28 (w18.heap.size) = some (.cells #[.int .i64 s4, .int .i64 (-s2), .int .i64 (-s3), .int .i64 s1] 25 (0, 0))) := Lib.hid (blkK K27.out bW (blk_lt K27.out))
        have Y28 : Hid (heapAt w28 (w20.heap.size) = some (.cells #[.int .i64 y1, .int .i64 y2] 32 (0, 0))) := Lib.hid (blkK Y27.out bW (blk_lt Y27.out))
        have Z28 : Hid (heapAt w28 (w23.heap.size) = some (.cells #[.int .i64 n, .int .i64 m] 32 (0, 0))) := Lib.hid (blkK Z27.out bW (blk_lt Z27.out))
        have J28 : Hid (heapAt w28 (w25.heap.size) = some (.cells #[.int .i64 jA, .int .i64 jB, .int .i64 jC, .int .i64 jD] 25 (0, 0))) := Lib.hid (blkK J27.out bW (blk_lt J27.out))
        have B28 : Hid (Below w.heap.size w w28) := Lib.hid (B27.out.trans (bW.mono B27.out.size))
        rw [← hW]
        clear hW bW
        clear pJ0 pJ1 pJ2 pJ3 fJ0 fJ1 fJ2 fJ3 cJ
        refine (VJ.out _).mono ?_
        rintro e w29 ⟨rfl, b29⟩
        have S29 : Hid (heapAt w29 (w1.heap.size) = some (.cells #[.int .i64 s1, .int .i64 s2, .int .i64 s3, .int .i64 s4] 25 (0, 0))) := Lib.hid (blkK S28.out b29 (blk_lt S28.out))
        have T29 : Hid (heapAt w29 (w3.heap.size) = some (.cells #[.int .i64 t1, .int .i64 t2, .int .i64 t3, .int .i64 t4] 25 (0, 0))) := Lib.hid (blkK T28.out b29 (blk_lt T28.out))
        have X29 : Hid (heapAt w29 (w5.heap.size) = some (.cells #[.int .i64 n, .int .i64 m] 32 (0, 0))) := Lib.hid (blkK X28.out b29 (blk_lt X28.out))
        have F29 : Hid (heapAt w29 (w7.heap.size) = some (.cells #[.int .i64 f1, .int .i64 s1, .int .i64 f3, .int .i64 s3] 25 (0, 0))) := Lib.hid (blkK F28.out b29 (blk_lt F28.out))
        have I29 : Hid (heapAt w29 (w9.heap.size) = some (.cells #[.int .i64 iN, .int .i64 iD] 32 (0, 0))) := Lib.hid (blkK I28.out b29 (blk_lt I28.out))
        have A29 : Hid (heapAt w29 (w11.heap.size) = some (.cells #[.int .i64 tN, .int .i64 tD] 32 (0, 0))) := Lib.hid (blkK A28.out b29 (blk_lt A28.out))
        have P29 : Hid (heapAt w29 (w13.heap.size) = some (.cells #[.int .i64 p1, .int .i64 p2] 32 (0, 0))) := Lib.hid (blkK P28.out b29 (blk_lt P28.out))
        have Q29 : Hid (heapAt w29 (w15.heap.size) = some (.cells #[.int .i64 p1, .int .i64 p2] 32 (0, 0))) := Lib.hid (blkK Q28.out b29 (blk_lt Q28.out))
        have K29 : Hid (heapAt w29 (w18.heap.size) = some (.cells #[.int .i64 s4, .int .i64 (-s2), .int .i64 (-s3), .int .i64 s1] 25 (0, 0))) := Lib.hid (blkK K28.out b29 (blk_lt K28.out))
        have Y29 : Hid (heapAt w29 (w20.heap.size) = some (.cells #[.int .i64 y1, .int .i64 y2] 32 (0, 0))) := Lib.hid (blkK Y28.out b29 (blk_lt Y28.out))
        have Z29 : Hid (heapAt w29 (w23.heap.size) = some (.cells #[.int .i64 n, .int .i64 m] 32 (0, 0))) := Lib.hid (blkK Z28.out b29 (blk_lt Z28.out))
        have J29 : Hid (heapAt w29 (w25.heap.size) = some (.cells #[.int .i64 jA, .int .i64 jB, .int .i64 jC, .int .i64 jD] 25 (0, 0))) := Lib.hid (blkK J28.out b29 (blk_lt J28.out))
        have N29 : Hid (heapAt w29 (w27.heap.size) = some (.cells #[.int .i64 i1, .int .i64 i2] 32 (0, 0))) := Lib.hid (blkK N28.out b29 (blk_lt N28.out))
        have B29 : Hid (Below w.heap.size w w29) := Lib.hid (B28.out.trans (b29.mono B28.out.size))
        clear b29
        by_cases hi3 : i3 = 0
        · subst hi3
          obtain ⟨hv9, hu9⟩ := HJ3.out _ _ rfl
          have SA2 := Lib.hid (fun w => at_eq hu9 (SAT.out i1 i2 hv9 w))
          clear hv9 hu9
          generalize atF jA jB jC jD n m = Ut at *
          obtain ⟨⟨u1, u2⟩, u3⟩ := Ut
          have cJ := J29.out
          obtain ⟨zJ, pJ0, pJ1, pJ2, pJ3, fJ0, fJ1, fJ2, fJ3⟩ := blk4 cJ
          have cX := X29.out
          obtain ⟨zX, pX0, pX1, fX0, fX1⟩ := blk2 cX
          go_wp2_with fail
          refine (UA.out _).mono ?_
          rintro e w30 ⟨rfl, b30⟩
          have S30 : Hid (heapAt w30 (w1.heap.size) = some (.cells #[.int .i64 s1, .int .i64 s2, .int .i64 s3, .int .i64 s4] 25 (0, 0))) := Lib.hid (blkK S29.out b30 (blk_lt S29.out))
          have T30 : Hid (heapAt w30 (w3.heap.size) = some (.cells #[.int .i64 t1, .int .i64 t2, .int .i64 t3, .int .i64 t4] 25 (0, 0))) := Lib.hid (blkK T29.out b30 (blk_lt T29.out))
          have X30 : Hid (heapAt w30 (w5.heap.size) = some (.cells #[.int .i64 n, .int .i64 m] 32 (0, 0))) := Lib.hid (blkK X29.out b30 (blk_lt X29.out))
          have F30 : Hid (heapAt w30 (w7.heap.size) = some (.cells #[.int .i64 f1, .int .i64 s1, .int .i64 f3, .int .i64 s3] 25 (0, 0))) := Lib.hid (blkK F29.out b30 (blk_lt F29.out))
          have I30 : Hid (heapAt w30 (w9.heap.size) = some (.cells #[.int .i64 iN, .int .i64 iD] 32 (0, 0))) := Lib.hid (blkK I29.out b30 (blk_lt I29.out))
          have A30 : Hid (heapAt w30 (w11.heap.size) = some (.cells #[.int .i64 tN, .int .i64 tD] 32 (0, 0))) := Lib.hid (blkK A29.out b30 (blk_lt A29.out))
          have P30 : Hid (heapAt w30 (w13.heap.size) = some (.cells #[.int .i64 p1, .int .i64 p2] 32 (0, 0))) := Lib.hid (blkK P29.out b30 (blk_lt P29.out))
          have Q30 : Hid (heapAt w30 (w15.heap.size) = some (.cells #[.int .i64 p1, .int .i64 p2] 32 (0, 0))) := Lib.hid (blkK Q29.out b30 (blk_lt Q29.out))
          have K30 : Hid (heapAt w30 (w18.heap.size) = some (.cells #[.int .i64 s4, .int .i64 (-s2), .int .i64 (-s3), .int .i64 s1] 25 (0, 0))) := Lib.hid (blkK K29.out b30 (blk_lt K29.out))
          have Y30 : Hid (heapAt w30 (w20.heap.size) = some (.cells #[.int .i64 y1, .int .i64 y2] 32 (0, 0))) := Lib.hid (blkK Y29.out b30 (blk_lt Y29.out))
          have Z30 : Hid (heapAt w30 (w23.heap.size) = some (.cells #[.int .i64 n, .int .i64 m] 32 (0, 0))) := Lib.hid (blkK Z29.out b30 (blk_lt Z29.out))
          have J30 : Hid (heapAt w30 (w25.heap.size) = some (.cells #[.int .i64 jA, .int .i64 jB, .int .i64 jC, .int .i64 jD] 25 (0, 0))) := Lib.hid (blkK J29.out b30 (blk_lt J29.out))
          have N30 : Hid (heapAt w30 (w27.heap.size) = some (.cells #[.int .i64 i1, .int .i64 i2] 32 (0, 0))) := Lib.hid (blkK N29.out b30 (blk_lt N29.out))
          have B30 : Hid (Below w.heap.size w w30) := Lib.hid (B29.out.trans (b30.mono B29.out.size))
          clear b30
          clear pJ0 pJ1 pJ2 pJ3 fJ0 fJ1 fJ2 fJ3 cJ
          clear pX0 pX1 fX0 fX1 cX
          have cS := S30.out
          obtain ⟨zS, pS0, pS1, pS2, pS3, fS0, fS1, fS2, fS3⟩ := blk4 cS
          have cN := N30.out
          obtain ⟨zN, pN0, pN1, fN0, fN1⟩ := blk2 cN
          go_wp2_with fail
          obtain ⟨w31, hW⟩ : ∃ w', w' = (w30.alloc (.cells #[.int .i64 u1, .int .i64 u2] 32)) := ⟨_, rfl⟩
          have bW : Below w30.heap.size w30 w31 := by rw [hW]; exact (by repeat' (first | (with_reducible exact Below.refl _ _) | (with_reducible assumption) | (with_reducible refine Below.setCell ?_ ?_ _) | (with_reducible refine Below.alloc ?_ ?_ _) | (with_reducible refine Below.drew ?_) | (with_reducible refine below_drewN ?_ _) | (with_reducible refine Below.trans ?_ (Below.mono (by with_reducible assumption) ?_)) | go_size | (simp at *; omega)))
          have U31 : Hid (heapAt w31 (w30.heap.size) = some (.cells #[.int .i64 u1, .int .i64 u2] 32 (0, 0))) := Lib.hid (by rw [hW]; exact heapAt_new _ _)
          have S31 : Hid (heapAt w31 (w1.heap.size) = some (.cells #[.int .i64 s1, .int .i64 s2, .int .i64 s3, .int .i64 s4] 25 (0, 0))) := Lib.hid (blkK S30.out bW (blk_lt S30.out))
          have T31 : Hid (heapAt w31 (w3.heap.size) = some (.cells #[.int .i64 t1, .int .i64 t2, .int .i64 t3, .int .i64 t4] 25 (0, 0))) := Lib.hid (blkK T30.out bW (blk_lt T30.out))
          have X31 : Hid (heapAt w31 (w5.heap.size) = some (.cells #[.int .i64 n, .int .i64 m] 32 (0, 0))) := Lib.hid (blkK X30.out bW (blk_lt X30.out))
          have F31 : Hid (heapAt w31 (w7.heap.size) = some (.cells #[.int .i64 f1, .int .i64 s1, .int .i64 f3, .int .i64 s3] 25 (0, 0))) := Lib.hid (blkK F30.out bW (blk_lt F30.out))
          have I31 : Hid (heapAt w31 (w9.heap.size) = some (.cells #[.int .i64 iN, .int .i64 iD] 32 (0, 0))) := Lib.hid (blkK I30.out bW (blk_lt I30.out))
          have A31 : Hid (heapAt w31 (w11.heap.size) = some (.cells #[.int .i64 tN, .int .i64 tD] 32 (0, 0))) := Lib.hid (blkK A30.out bW (blk_lt A30.out))
          have P31 : Hid (heapAt w31 (w13.heap.size) = some (.cells #[.int .i64 p1, .int .i64 p2] 32 (0, 0))) := Lib.hid (blkK P30.out bW (blk_lt P30.out))
          have Q31 : Hid (heapAt w31 (w15.heap.size) = some (.cells #[.int .i64 p1, .int .i64 p2] 32 (0, 0))) := Lib.hid (blkK Q30.out bW (blk_lt Q30.out))
          have K31 : Hid (heapAt w31 (w18.heap.size) = some (.cells #[.int .i64 s4, .int .i64 (-s2), .int .i64 (-s3), .int .i64 s1] 25 (0, 0))) := Lib.hid (blkK K30.out bW (blk_lt K30.out))
          have Y31 : Hid (heapAt w31 (w20.heap.size) = some (.cells #[.int .i64 y1, .int .i64 y2] 32 (0, 0))) := Lib.hid (blkK Y30.out bW (blk_lt Y30.out))
          have Z31 : Hid (heapAt w31 (w23.heap.size) = some (.cells #[.int .i64 n, .int .i64 m] 32 (0, 0))) := Lib.hid (blkK Z30.out bW (blk_lt Z30.out))
          have J31 : Hid (heapAt w31 (w25.heap.size) = some (.cells #[.int .i64 jA, .int .i64 jB, .int .i64 jC, .int .i64 jD] 25 (0, 0))) := Lib.hid (blkK J30.out bW (blk_lt J30.out))
          have N31 : Hid (heapAt w31 (w27.heap.size) = some (.cells #[.int .i64 i1, .int .i64 i2] 32 (0, 0))) := Lib.hid (blkK N30.out bW (blk_lt N30.out))
          have B31 : Hid (Below w.heap.size w w31) := Lib.hid (B30.out.trans (bW.mono B30.out.size))
          rw [← hW]
          clear hW bW
          clear pS0 pS1 pS2 pS3 fS0 fS1 fS2 fS3 cS
          clear pN0 pN1 fN0 fN1 cN
          refine (SA2.out _).mono ?_
          rintro e w32 ⟨rfl, b32⟩
          have S32 : Hid (heapAt w32 (w1.heap.size) = some (.cells #[.int .i64 s1, .int .i64 s2, .int .i64 s3, .int .i64 s4] 25 (0, 0))) := Lib.hid (blkK S31.out b32 (blk_lt S31.out))
          have T32 : Hid (heapAt w32 (w3.heap.size) = some (.cells #[.int .i64 t1, .int .i64 t2, .int .i64 t3, .int .i64 t4] 25 (0, 0))) := Lib.hid (blkK T31.out b32 (blk_lt T31.out))
          have X32 : Hid (heapAt w32 (w5.heap.size) = some (.cells #[.int .i64 n, .int .i64 m] 32 (0, 0))) := Lib.hid (blkK X31.out b32 (blk_lt X31.out))
          have F32 : Hid (heapAt w32 (w7.heap.size) = some (.cells #[.int .i64 f1, .int .i64 s1, .int .i64 f3, .int .i64 s3] 25 (0, 0))) := Lib.hid (blkK F31.out b32 (blk_lt F31.out))
          have I32 : Hid (heapAt w32 (w9.heap.size) = some (.cells #[.int .i64 iN, .int .i64 iD] 32 (0, 0))) := Lib.hid (blkK I31.out b32 (blk_lt I31.out))
          have A32 : Hid (heapAt w32 (w11.heap.size) = some (.cells #[.int .i64 tN, .int .i64 tD] 32 (0, 0))) := Lib.hid (blkK A31.out b32 (blk_lt A31.out))
          have P32 : Hid (heapAt w32 (w13.heap.size) = some (.cells #[.int .i64 p1, .int .i64 p2] 32 (0, 0))) := Lib.hid (blkK P31.out b32 (blk_lt P31.out))
          have Q32 : Hid (heapAt w32 (w15.heap.size) = some (.cells #[.int .i64 p1, .int .i64 p2] 32 (0, 0))) := Lib.hid (blkK Q31.out b32 (blk_lt Q31.out))
          have K32 : Hid (heapAt w32 (w18.heap.size) = some (.cells #[.int .i64 s4, .int .i64 (-s2), .int .i64 (-s3), .int .i64 s1] 25 (0, 0))) := Lib.hid (blkK K31.out b32 (blk_lt K31.out))
          have Y32 : Hid (heapAt w32 (w20.heap.size) = some (.cells #[.int .i64 y1, .int .i64 y2] 32 (0, 0))) := Lib.hid (blkK Y31.out b32 (blk_lt Y31.out))
          have Z32 : Hid (heapAt w32 (w23.heap.size) = some (.cells #[.int .i64 n, .int .i64 m] 32 (0, 0))) := Lib.hid (blkK Z31.out b32 (blk_lt Z31.out))
          have J32 : Hid (heapAt w32 (w25.heap.size) = some (.cells #[.int .i64 jA, .int .i64 jB, .int .i64 jC, .int .i64 jD] 25 (0, 0))) := Lib.hid (blkK J31.out b32 (blk_lt J31.out))
          have N32 : Hid (heapAt w32 (w27.heap.size) = some (.cells #[.int .i64 i1, .int .i64 i2] 32 (0, 0))) := Lib.hid (blkK N31.out b32 (blk_lt N31.out))
          have U32 : Hid (heapAt w32 (w30.heap.size) = some (.cells #[.int .i64 u1, .int .i64 u2] 32 (0, 0))) := Lib.hid (blkK U31.out b32 (blk_lt U31.out))
          have B32 : Hid (Below w.heap.size w w32) := Lib.hid (B31.out.trans (b32.mono B31.out.size))
          clear b32
          have cU := U32.out
          obtain ⟨zU, pU0, pU1, fU0, fU1⟩ := blk2 cU
          go_wp2_with fail
          go_ret
          have b9 := B32.out
          have hz9 := b9.size
          exact ⟨rfl, (by repeat' (first | (with_reducible exact Below.refl _ _) | (with_reducible assumption) | (with_reducible refine Below.setCell ?_ ?_ _) | (with_reducible refine Below.alloc ?_ ?_ _) | (with_reducible refine Below.drew ?_) | (with_reducible refine below_drewN ?_ _) | (with_reducible refine Below.trans ?_ (Below.mono (by with_reducible assumption) ?_)) | go_size | (simp at *; omega)))⟩
        · have hi3b : (i3 != 0) = true := by simp [hi3]
          go_wp2_with fail
          go_ret
          have b9 := B29.out
          have hz9 := b9.size
          exact ⟨rfl, (by repeat' (first | (with_reducible exact Below.refl _ _) | (with_reducible assumption) | (with_reducible refine Below.setCell ?_ ?_ _) | (with_reducible refine Below.alloc ?_ ?_ _) | (with_reducible refine Below.drew ?_) | (with_reducible refine below_drewN ?_ _) | (with_reducible refine Below.trans ?_ (Below.mono (by with_reducible assumption) ?_)) | go_size | (simp at *; omega)))⟩
      · have hy3b : (y3 == 0) = false := by simp [hy3]
        have cS := S22.out
        obtain ⟨zS, pS0, pS1, pS2, pS3, fS0, fS1, fS2, fS3⟩ := blk4 cS
        have cT := T22.out
        obtain ⟨zT, pT0, pT1, pT2, pT3, fT0, fT1, fT2, fT3⟩ := blk4 cT
        go_wp2_with fail
        refine (JS.out _).mono ?_
        rintro e w23 ⟨rfl, b23⟩
        have S23 : Hid (heapAt w23 (w1.heap.size) = some (.cells #[.int .i64 s1, .int .i64 s2, .int .i64 s3, .int .i64 s4] 25 (0, 0))) := Lib.hid (blkK S22.out b23 (blk_lt S22.out))
        have T23 : Hid (heapAt w23 (w3.heap.size) = some (.cells #[.int .i64 t1, .int .i64 t2, .int .i64 t3, .int .i64 t4] 25 (0, 0))) := Lib.hid (blkK T22.out b23 (blk_lt T22.out))
        have X23 : Hid (heapAt w23 (w5.heap.size) = some (.cells #[.int .i64 n, .int .i64 m] 32 (0, 0))) := Lib.hid (blkK X22.out b23 (blk_lt X22.out))
        have F23 : Hid (heapAt w23 (w7.heap.size) = some (.cells #[.int .i64 f1, .int .i64 s1, .int .i64 f3, .int .i64 s3] 25 (0, 0))) := Lib.hid (blkK F22.out b23 (blk_lt F22.out))
        have I23 : Hid (heapAt w23 (w9.heap.size) = some (.cells #[.int .i64 iN, .int .i64 iD] 32 (0, 0))) := Lib.hid (blkK I22.out b23 (blk_lt I22.out))
        have A23 : Hid (heapAt w23 (w11.heap.size) = some (.cells #[.int .i64 tN, .int .i64 tD] 32 (0, 0))) := Lib.hid (blkK A22.out b23 (blk_lt A22.out))
        have P23 : Hid (heapAt w23 (w13.heap.size) = some (.cells #[.int .i64 p1, .int .i64 p2] 32 (0, 0))) := Lib.hid (blkK P22.out b23 (blk_lt P22.out))
        have Q23 : Hid (heapAt w23 (w15.heap.size) = some (.cells #[.int .i64 p1, .int .i64 p2] 32 (0, 0))) := Lib.hid (blkK Q22.out b23 (blk_lt Q22.out))
        have K23 : Hid (heapAt w23 (w18.heap.size) = some (.cells #[.int .i64 s4, .int .i64 (-s2), .int .i64 (-s3), .int .i64 s1] 25 (0, 0))) := Lib.hid (blkK K22.out b23 (blk_lt K22.out))
        have Y23 : Hid (heapAt w23 (w20.heap.size) = some (.cells #[.int .i64 y1, .int .i64 y2] 32 (0, 0))) := Lib.hid (blkK Y22.out b23 (blk_lt Y22.out))
        have B23 : Hid (Below w.heap.size w w23) := Lib.hid (B22.out.trans (b23.mono B22.out.size))
        clear b23
        clear pS0 pS1 pS2 pS3 fS0 fS1 fS2 fS3 cS
        clear pT0 pT1 pT2 pT3 fT0 fT1 fT2 fT3 cT
        have cT := T23.out
        obtain ⟨zT, pT0, pT1, pT2, pT3, fT0, fT1, fT2, fT3⟩ := blk4 cT
        have cX := X23.out
        obtain ⟨zX, pX0, pX1, fX0, fX1⟩ := blk2 cX
        go_wp2_with fail
        obtain ⟨w24, hW⟩ : ∃ w', w' = (w23.alloc (.cells #[.int .i64 jA, .int .i64 jB, .int .i64 jC, .int .i64 jD] 25)) := ⟨_, rfl⟩
        have bW : Below w23.heap.size w23 w24 := by rw [hW]; exact (by repeat' (first | (with_reducible exact Below.refl _ _) | (with_reducible assumption) | (with_reducible refine Below.setCell ?_ ?_ _) | (with_reducible refine Below.alloc ?_ ?_ _) | (with_reducible refine Below.drew ?_) | (with_reducible refine below_drewN ?_ _) | (with_reducible refine Below.trans ?_ (Below.mono (by with_reducible assumption) ?_)) | go_size | (simp at *; omega)))
        have J24 : Hid (heapAt w24 (w23.heap.size) = some (.cells #[.int .i64 jA, .int .i64 jB, .int .i64 jC, .int .i64 jD] 25 (0, 0))) := Lib.hid (by rw [hW]; exact heapAt_new _ _)
        have S24 : Hid (heapAt w24 (w1.heap.size) = some (.cells #[.int .i64 s1, .int .i64 s2, .int .i64 s3, .int .i64 s4] 25 (0, 0))) := Lib.hid (blkK S23.out bW (blk_lt S23.out))
        have T24 : Hid (heapAt w24 (w3.heap.size) = some (.cells #[.int .i64 t1, .int .i64 t2, .int .i64 t3, .int .i64 t4] 25 (0, 0))) := Lib.hid (blkK T23.out bW (blk_lt T23.out))
        have X24 : Hid (heapAt w24 (w5.heap.size) = some (.cells #[.int .i64 n, .int .i64 m] 32 (0, 0))) := Lib.hid (blkK X23.out bW (blk_lt X23.out))
        have F24 : Hid (heapAt w24 (w7.heap.size) = some (.cells #[.int .i64 f1, .int .i64 s1, .int .i64 f3, .int .i64 s3] 25 (0, 0))) := Lib.hid (blkK F23.out bW (blk_lt F23.out))
        have I24 : Hid (heapAt w24 (w9.heap.size) = some (.cells #[.int .i64 iN, .int .i64 iD] 32 (0, 0))) := Lib.hid (blkK I23.out bW (blk_lt I23.out))
        have A24 : Hid (heapAt w24 (w11.heap.size) = some (.cells #[.int .i64 tN, .int .i64 tD] 32 (0, 0))) := Lib.hid (blkK A23.out bW (blk_lt A23.out))
        have P24 : Hid (heapAt w24 (w13.heap.size) = some (.cells #[.int .i64 p1, .int .i64 p2] 32 (0, 0))) := Lib.hid (blkK P23.out bW (blk_lt P23.out))
        have Q24 : Hid (heapAt w24 (w15.heap.size) = some (.cells #[.int .i64 p1, .int .i64 p2] 32 (0, 0))) := Lib.hid (blkK Q23.out bW (blk_lt Q23.out))
        have K24 : Hid (heapAt w24 (w18.heap.size) = some (.cells #[.int .i64 s4, .int .i64 (-s2), .int .i64 (-s3), .int .i64 s1] 25 (0, 0))) := Lib.hid (blkK K23.out bW (blk_lt K23.out))
        have Y24 : Hid (heapAt w24 (w20.heap.size) = some (.cells #[.int .i64 y1, .int .i64 y2] 32 (0, 0))) := Lib.hid (blkK Y23.out bW (blk_lt Y23.out))
        have B24 : Hid (Below w.heap.size w w24) := Lib.hid (B23.out.trans (bW.mono B23.out.size))
        rw [← hW]
        clear hW bW
        clear pT0 pT1 pT2 pT3 fT0 fT1 fT2 fT3 cT
        clear pX0 pX1 fX0 fX1 cX
        refine (NA.out _).mono ?_
        rintro e w25 ⟨rfl, b25⟩
        have S25 : Hid (heapAt w25 (w1.heap.size) = some (.cells #[.int .i64 s1, .int .i64 s2, .int .i64 s3, .int .i64 s4] 25 (0, 0))) := Lib.hid (blkK S24.out b25 (blk_lt S24.out))
        have T25 : Hid (heapAt w25 (w3.heap.size) = some (.cells #[.int .i64 t1, .int .i64 t2, .int .i64 t3, .int .i64 t4] 25 (0, 0))) := Lib.hid (blkK T24.out b25 (blk_lt T24.out))
        have X25 : Hid (heapAt w25 (w5.heap.size) = some (.cells #[.int .i64 n, .int .i64 m] 32 (0, 0))) := Lib.hid (blkK X24.out b25 (blk_lt X24.out))
        have F25 : Hid (heapAt w25 (w7.heap.size) = some (.cells #[.int .i64 f1, .int .i64 s1, .int .i64 f3, .int .i64 s3] 25 (0, 0))) := Lib.hid (blkK F24.out b25 (blk_lt F24.out))
        have I25 : Hid (heapAt w25 (w9.heap.size) = some (.cells #[.int .i64 iN, .int .i64 iD] 32 (0, 0))) := Lib.hid (blkK I24.out b25 (blk_lt I24.out))
        have A25 : Hid (heapAt w25 (w11.heap.size) = some (.cells #[.int .i64 tN, .int .i64 tD] 32 (0, 0))) := Lib.hid (blkK A24.out b25 (blk_lt A24.out))
        have P25 : Hid (heapAt w25 (w13.heap.size) = some (.cells #[.int .i64 p1, .int .i64 p2] 32 (0, 0))) := Lib.hid (blkK P24.out b25 (blk_lt P24.out))
        have Q25 : Hid (heapAt w25 (w15.heap.size) = some (.cells #[.int .i64 p1, .int .i64 p2] 32 (0, 0))) := Lib.hid (blkK Q24.out b25 (blk_lt Q24.out))
        have K25 : Hid (heapAt w25 (w18.heap.size) = some (.cells #[.int .i64 s4, .int .i64 (-s2), .int .i64 (-s3), .int .i64 s1] 25 (0, 0))) := Lib.hid (blkK K24.out b25 (blk_lt K24.out))
        have Y25 : Hid (heapAt w25 (w20.heap.size) = some (.cells #[.int .i64 y1, .int .i64 y2] 32 (0, 0))) := Lib.hid (blkK Y24.out b25 (blk_lt Y24.out))
        have J25 : Hid (heapAt w25 (w23.heap.size) = some (.cells #[.int .i64 jA, .int .i64 jB, .int .i64 jC, .int .i64 jD] 25 (0, 0))) := Lib.hid (blkK J24.out b25 (blk_lt J24.out))
        have B25 : Hid (Below w.heap.size w w25) := Lib.hid (B24.out.trans (b25.mono B24.out.size))
        clear b25
        have cJ := J25.out
        obtain ⟨zJ, pJ0, pJ1, pJ2, pJ3, fJ0, fJ1, fJ2, fJ3⟩ := blk4 cJ
        go_wp2_with fail
        obtain ⟨w26, hW⟩ : ∃ w', w' = (w25.alloc (.cells #[.int .i64 i1, .int .i64 i2] 32)) := ⟨_, rfl⟩
        have bW : Below w25.heap.size w25 w26 := by rw [hW]; exact (by repeat' (first | (with_reducible exact Below.refl _ _) | (with_reducible assumption) | (with_reducible refine Below.setCell ?_ ?_ _) | (with_reducible refine Below.alloc ?_ ?_ _) | (with_reducible refine Below.drew ?_) | (with_reducible refine below_drewN ?_ _) | (with_reducible refine Below.trans ?_ (Below.mono (by with_reducible assumption) ?_)) | go_size | (simp at *; omega)))
        have N26 : Hid (heapAt w26 (w25.heap.size) = some (.cells #[.int .i64 i1, .int .i64 i2] 32 (0, 0))) := Lib.hid (by rw [hW]; exact heapAt_new _ _)
        have S26 : Hid (heapAt w26 (w1.heap.size) = some (.cells #[.int .i64 s1, .int .i64 s2, .int .i64 s3, .int .i64 s4] 25 (0, 0))) := Lib.hid (blkK S25.out bW (blk_lt S25.out))
        have T26 : Hid (heapAt w26 (w3.heap.size) = some (.cells #[.int .i64 t1, .int .i64 t2, .int .i64 t3, .int .i64 t4] 25 (0, 0))) := Lib.hid (blkK T25.out bW (blk_lt T25.out))
        have X26 : Hid (heapAt w26 (w5.heap.size) = some (.cells #[.int .i64 n, .int .i64 m] 32 (0, 0))) := Lib.hid (blkK X25.out bW (blk_lt X25.out))
        have F26 : Hid (heapAt w26 (w7.heap.size) = some (.cells #[.int .i64 f1, .int .i64 s1, .int .i64 f3, .int .i64 s3] 25 (0, 0))) := Lib.hid (blkK F25.out bW (blk_lt F25.out))
        have I26 : Hid (heapAt w26 (w9.heap.size) = some (.cells #[.int .i64 iN, .int .i64 iD] 32 (0, 0))) := Lib.hid (blkK I25.out bW (blk_lt I25.out))
        have A26 : Hid (heapAt w26 (w11.heap.size) = some (.cells #[.int .i64 tN, .int .i64 tD] 32 (0, 0))) := Lib.hid (blkK A25.out bW (blk_lt A25.out))
        have P26 : Hid (heapAt w26 (w13.heap.size) = some (.cells #[.int .i64 p1, .int .i64 p2] 32 (0, 0))) := Lib.hid (blkK P25.out bW (blk_lt P25.out))
        have Q26 : Hid (heapAt w26 (w15.heap.size) = some (.cells #[.int .i64 p1, .int .i64 p2] 32 (0, 0))) := Lib.hid (blkK Q25.out bW (blk_lt Q25.out))
        have K26 : Hid (heapAt w26 (w18.heap.size) = some (.cells #[.int .i64 s4, .int .i64 (-s2), .int .i64 (-s3), .int .i64 s1] 25 (0, 0))) := Lib.hid (blkK K25.out bW (blk_lt K25.out))
        have Y26 : Hid (heapAt w26 (w20.heap.size) = some (.cells #[.int .i64 y1, .int .i64 y2] 32 (0, 0))) := Lib.hid (blkK Y25.out bW (blk_lt Y25.out))
        have J26 : Hid (heapAt w26 (w23.heap.size) = some (.cells #[.int .i64 jA, .int .i64 jB, .int .i64 jC, .int .i64 jD] 25 (0, 0))) := Lib.hid (blkK J25.out bW (blk_lt J25.out))
        have B26 : Hid (Below w.heap.size w w26) := Lib.hid (B25.out.trans (bW.mono B25.out.size))
        rw [← hW]
        clear hW bW
        clear pJ0 pJ1 pJ2 pJ3 fJ0 fJ1 fJ2 fJ3 cJ
        refine (VJ.out _).mono ?_
        rintro e w27 ⟨rfl, b27⟩
        have S27 : Hid (heapAt w27 (w1.heap.size) = some (.cells #[.int .i64 s1, .int .i64 s2, .int .i64 s3, .int .i64 s4] 25 (0, 0))) := Lib.hid (blkK S26.out b27 (blk_lt S26.out))
        have T27 : Hid (heapAt w27 (w3.heap.size) = some (.cells #[.int .i64 t1, .int .i64 t2, .int .i64 t3, .int .i64 t4] 25 (0, 0))) := Lib.hid (blkK T26.out b27 (blk_lt T26.out))
        have X27 : Hid (heapAt w27 (w5.heap.size) = some (.cells #[.int .i64 n, .int .i64 m] 32 (0, 0))) := Lib.hid (blkK X26.out b27 (blk_lt X26.out))
        have F27 : Hid (heapAt w27 (w7.heap.size) = some (.cells #[.int .i64 f1, .int .i64 s1, .int .i64 f3, .int .i64 s3] 25 (0, 0))) := Lib.hid (blkK F26.out b27 (blk_lt F26.out))
        have I27 : Hid (heapAt w27 (w9.heap.size) = some (.cells #[.int .i64 iN, .int .i64 iD] 32 (0, 0))) := Lib.hid (blkK I26.out b27 (blk_lt I26.out))
        have A27 : Hid (heapAt w27 (w11.heap.size) = some (.cells #[.int .i64 tN, .int .i64 tD] 32 (0, 0))) := Lib.hid (blkK A26.out b27 (blk_lt A26.out))
        have P27 : Hid (heapAt w27 (w13.heap.size) = some (.cells #[.int .i64 p1, .int .i64 p2] 32 (0, 0))) := Lib.hid (blkK P26.out b27 (blk_lt P26.out))
        have Q27 : Hid (heapAt w27 (w15.heap.size) = some (.cells #[.int .i64 p1, .int .i64 p2] 32 (0, 0))) := Lib.hid (blkK Q26.out b27 (blk_lt Q26.out))
        have K27 : Hid (heapAt w27 (w18.heap.size) = some (.cells #[.int .i64 s4, .int .i64 (-s2), .int .i64 (-s3), .int .i64 s1] 25 (0, 0))) := Lib.hid (blkK K26.out b27 (blk_lt K26.out))
        have Y27 : Hid (heapAt w27 (w20.heap.size) = some (.cells #[.int .i64 y1, .int .i64 y2] 32 (0, 0))) := Lib.hid (blkK Y26.out b27 (blk_lt Y26.out))
        have J27 : Hid (heapAt w27 (w23.heap.size) = some (.cells #[.int .i64 jA, .int .i64 jB, .int .i64 jC, .int .i64 jD] 25 (0, 0))) := Lib.hid (blkK J26.out b27 (blk_lt J26.out))
        have N27 : Hid (heapAt w27 (w25.heap.size) = some (.cells #[.int .i64 i1, .int .i64 i2] 32 (0, 0))) := Lib.hid (blkK N26.out b27 (blk_lt N26.out))
        have B27 : Hid (Below w.heap.size w w27) := Lib.hid (B26.out.trans (b27.mono B26.out.size))
        clear b27
        by_cases hi3 : i3 = 0
        · subst hi3
          obtain ⟨hv9, hu9⟩ := HJ3.out _ _ rfl
          have SA2 := Lib.hid (fun w => at_eq hu9 (SAT.out i1 i2 hv9 w))
          clear hv9 hu9
          generalize atF jA jB jC jD n m = Ut at *
          obtain ⟨⟨u1, u2⟩, u3⟩ := Ut
          have cJ := J27.out
          obtain ⟨zJ, pJ0, pJ1, pJ2, pJ3, fJ0, fJ1, fJ2, fJ3⟩ := blk4 cJ
          have cX := X27.out
          obtain ⟨zX, pX0, pX1, fX0, fX1⟩ := blk2 cX
          go_wp2_with fail
          refine (UA.out _).mono ?_
          rintro e w28 ⟨rfl, b28⟩
          have S28 : Hid (heapAt w28 (w1.heap.size) = some (.cells #[.int .i64 s1, .int .i64 s2, .int .i64 s3, .int .i64 s4] 25 (0, 0))) := Lib.hid (blkK S27.out b28 (blk_lt S27.out))
          have T28 : Hid (heapAt w28 (w3.heap.size) = some (.cells #[.int .i64 t1, .int .i64 t2, .int .i64 t3, .int .i64 t4] 25 (0, 0))) := Lib.hid (blkK T27.out b28 (blk_lt T27.out))
          have X28 : Hid (heapAt w28 (w5.heap.size) = some (.cells #[.int .i64 n, .int .i64 m] 32 (0, 0))) := Lib.hid (blkK X27.out b28 (blk_lt X27.out))
          have F28 : Hid (heapAt w28 (w7.heap.size) = some (.cells #[.int .i64 f1, .int .i64 s1, .int .i64 f3, .int .i64 s3] 25 (0, 0))) := Lib.hid (blkK F27.out b28 (blk_lt F27.out))
          have I28 : Hid (heapAt w28 (w9.heap.size) = some (.cells #[.int .i64 iN, .int .i64 iD] 32 (0, 0))) := Lib.hid (blkK I27.out b28 (blk_lt I27.out))
          have A28 : Hid (heapAt w28 (w11.heap.size) = some (.cells #[.int .i64 tN, .int .i64 tD] 32 (0, 0))) := Lib.hid (blkK A27.out b28 (blk_lt A27.out))
          have P28 : Hid (heapAt w28 (w13.heap.size) = some (.cells #[.int .i64 p1, .int .i64 p2] 32 (0, 0))) := Lib.hid (blkK P27.out b28 (blk_lt P27.out))
          have Q28 : Hid (heapAt w28 (w15.heap.size) = some (.cells #[.int .i64 p1, .int .i64 p2] 32 (0, 0))) := Lib.hid (blkK Q27.out b28 (blk_lt Q27.out))
          have K28 : Hid (heapAt w28 (w18.heap.size) = some (.cells #[.int .i64 s4, .int .i64 (-s2), .int .i64 (-s3), .int .i64 s1] 25 (0, 0))) := Lib.hid (blkK K27.out b28 (blk_lt K27.out))
          have Y28 : Hid (heapAt w28 (w20.heap.size) = some (.cells #[.int .i64 y1, .int .i64 y2] 32 (0, 0))) := Lib.hid (blkK Y27.out b28 (blk_lt Y27.out))
          have J28 : Hid (heapAt w28 (w23.heap.size) = some (.cells #[.int .i64 jA, .int .i64 jB, .int .i64 jC, .int .i64 jD] 25 (0, 0))) := Lib.hid (blkK J27.out b28 (blk_lt J27.out))
          have N28 : Hid (heapAt w28 (w25.heap.size) = some (.cells #[.int .i64 i1, .int .i64 i2] 32 (0, 0))) := Lib.hid (blkK N27.out b28 (blk_lt N27.out))
          have B28 : Hid (Below w.heap.size w w28) := Lib.hid (B27.out.trans (b28.mono B27.out.size))
          clear b28
          clear pJ0 pJ1 pJ2 pJ3 fJ0 fJ1 fJ2 fJ3 cJ
          clear pX0 pX1 fX0 fX1 cX
          have cS := S28.out
          obtain ⟨zS, pS0, pS1, pS2, pS3, fS0, fS1, fS2, fS3⟩ := blk4 cS
          have cN := N28.out
          obtain ⟨zN, pN0, pN1, fN0, fN1⟩ := blk2 cN
          go_wp2_with fail
          obtain ⟨w29, hW⟩ : ∃ w', w' = (w28.alloc (.cells #[.int .i64 u1, .int .i64 u2] 32)) := ⟨_, rfl⟩
          have bW : Below w28.heap.size w28 w29 := by rw [hW]; exact (by repeat' (first | (with_reducible exact Below.refl _ _) | (with_reducible assumption) | (with_reducible refine Below.setCell ?_ ?_ _) | (with_reducible refine Below.alloc ?_ ?_ _) | (with_reducible refine Below.drew ?_) | (with_reducible refine below_drewN ?_ _) | (with_reducible refine Below.trans ?_ (Below.mono (by with_reducible assumption) ?_)) | go_size | (simp at *; omega)))
          have U29 : Hid (heapAt w29 (w28.heap.size) = some (.cells #[.int .i64 u1, .int .i64 u2] 32 (0, 0))) := Lib.hid (by rw [hW]; exact heapAt_new _ _)
          have S29 : Hid (heapAt w29 (w1.heap.size) = some (.cells #[.int .i64 s1, .int .i64 s2, .int .i64 s3, .int .i64 s4] 25 (0, 0))) := Lib.hid (blkK S28.out bW (blk_lt S28.out))
          have T29 : Hid (heapAt w29 (w3.heap.size) = some (.cells #[.int .i64 t1, .int .i64 t2, .int .i64 t3, .int .i64 t4] 25 (0, 0))) := Lib.hid (blkK T28.out bW (blk_lt T28.out))
          have X29 : Hid (heapAt w29 (w5.heap.size) = some (.cells #[.int .i64 n, .int .i64 m] 32 (0, 0))) := Lib.hid (blkK X28.out bW (blk_lt X28.out))
          have F29 : Hid (heapAt w29 (w7.heap.size) = some (.cells #[.int .i64 f1, .int .i64 s1, .int .i64 f3, .int .i64 s3] 25 (0, 0))) := Lib.hid (blkK F28.out bW (blk_lt F28.out))
          have I29 : Hid (heapAt w29 (w9.heap.size) = some (.cells #[.int .i64 iN, .int .i64 iD] 32 (0, 0))) := Lib.hid (blkK I28.out bW (blk_lt I28.out))
          have A29 : Hid (heapAt w29 (w11.heap.size) = some (.cells #[.int .i64 tN, .int .i64 tD] 32 (0, 0))) := Lib.hid (blkK A28.out bW (blk_lt A28.out))
          have P29 : Hid (heapAt w29 (w13.heap.size) = some (.cells #[.int .i64 p1, .int .i64 p2] 32 (0, 0))) := Lib.hid (blkK P28.out bW (blk_lt P28.out))
          have Q29 : Hid (heapAt w29 (w15.heap.size) = some (.cells #[.int .i64 p1, .int .i64 p2] 32 (0, 0))) := Lib.hid (blkK Q28.out bW (blk_lt Q28.out))
          have K29 : Hid (heapAt w29 (w18.heap.size) = some (.cells #[.int .i64 s4, .int .i64 (-s2), .int .i64 (-s3), .int .i64 s1] 25 (0, 0))) := Lib.hid (blkK K28.out bW (blk_lt K28.out))
          have Y29 : Hid (heapAt w29 (w20.heap.size) = some (.cells #[.int .i64 y1, .int .i64 y2] 32 (0, 0))) := Lib.hid (blkK Y28.out bW (blk_lt Y28.out))
          have J29 : Hid (heapAt w29 (w23.heap.size) = some (.cells #[.int .i64 jA, .int .i64 jB, .int .i64 jC, .int .i64 jD] 25 (0, 0))) := Lib.hid (blkK J28.out bW (blk_lt J28.out))
          have N29 : Hid (heapAt w29 (w25.heap.size) = some (.cells #[.int .i64 i1, .int .i64 i2] 32 (0, 0))) := Lib.hid (blkK N28.out bW (blk_lt N28.out))
          have B29 : Hid (Below w.heap.size w w29) := Lib.hid (B28.out.trans (bW.mono B28.out.size))
          rw [← hW]
          clear hW bW
          clear pS0 pS1 pS2 pS3 fS0 fS1 fS2 fS3 cS
          clear pN0 pN1 fN0 fN1 cN
          refine (SA2.out _).mono ?_
          rintro e w30 ⟨rfl, b30⟩
          have S30 : Hid (heapAt w30 (w1.heap.size) = some (.cells #[.int .i64 s1, .int .i64 s2, .int .i64 s3, .int .i64 s4] 25 (0, 0))) := Lib.hid (blkK S29.out b30 (blk_lt S29.out))
          have T30 : Hid (heapAt w30 (w3.heap.size) = some (.cells #[.int .i64 t1, .int .i64 t2, .int .i64 t3, .int .i64 t4] 25 (0, 0))) := Lib.hid (blkK T29.out b30 (blk_lt T29.out))
          have X30 : Hid (heapAt w30 (w5.heap.size) = some (.cells #[.int .i64 n, .int .i64 m] 32 (0, 0))) := Lib.hid (blkK X29.out b30 (blk_lt X29.out))
          have F30 : Hid (heapAt w30 (w7.heap.size) = some (.cells #[.int .i64 f1, .int .i64 s1, .int .i64 f3, .int .i64 s3] 25 (0, 0))) := Lib.hid (blkK F29.out b30 (blk_lt F29.out))
          have I30 : Hid (heapAt w30 (w9.heap.size) = some (.cells #[.int .i64 iN, .int .i64 iD] 32 (0, 0))) := Lib.hid (blkK I29.out b30 (blk_lt I29.out))
          have A30 : Hid (heapAt w30 (w11.heap.size) = some (.cells #[.int .i64 tN, .int .i64 tD] 32 (0, 0))) := Lib.hid (blkK A29.out b30 (blk_lt A29.out))
          have P30 : Hid (heapAt w30 (w13.heap.size) = some (.cells #[.int .i64 p1, .int .i64 p2] 32 (0, 0))) := Lib.hid (blkK P29.out b30 (blk_lt P29.out))
          have Q30 : Hid (heapAt w30 (w15.heap.size) = some (.cells #[.int .i64 p1, .int .i64 p2] 32 (0, 0))) := Lib.hid (blkK Q29.out b30 (blk_lt Q29.out))
          have K30 : Hid (heapAt w30 (w18.heap.size) = some (.cells #[.int .i64 s4, .int .i64 (-s2), .int .i64 (-s3), .int .i64 s1] 25 (0, 0))) := Lib.hid (blkK K29.out b30 (blk_lt K29.out))
          have Y30 : Hid (heapAt w30 (w20.heap.size) = some (.cells #[.int .i64 y1, .int .i64 y2] 32 (0, 0))) := Lib.hid (blkK Y29.out b30 (blk_lt Y29.out))
          have J30 : Hid (heapAt w30 (w23.heap.size) = some (.cells #[.int .i64 jA, .int .i64 jB, .int .i64 jC, .int .i64 jD] 25 (0, 0))) := Lib.hid (blkK J29.out b30 (blk_lt J29.out))
          have N30 : Hid (heapAt w30 (w25.heap.size) = some (.cells #[.int .i64 i1, .int .i64 i2] 32 (0, 0))) := Lib.hid (blkK N29.out b30 (blk_lt N29.out))
          have U30 : Hid (heapAt w30 (w28.heap.size) = some (.cells #[.int .i64 u1, .int .i64 u2] 32 (0, 0))) := Lib.hid (blkK U29.out b30 (blk_lt U29.out))
          have B30 : Hid (Below w.heap.size w w30) := Lib.hid (B29.out.trans (b30.mono B29.out.size))
          clear b30
          have cU := U30.out
          obtain ⟨zU, pU0, pU1, fU0, fU1⟩ := blk2 cU
          go_wp2_with fail
          go_ret
          have b9 := B30.out
          have hz9 := b9.size
          exact ⟨rfl, (by repeat' (first | (with_reducible exact Below.refl _ _) | (with_reducible assumption) | (with_reducible refine Below.setCell ?_ ?_ _) | (with_reducible refine Below.alloc ?_ ?_ _) | (with_reducible refine Below.drew ?_) | (with_reducible refine below_drewN ?_ _) | (with_reducible refine Below.trans ?_ (Below.mono (by with_reducible assumption) ?_)) | go_size | (simp at *; omega)))⟩
        · have hi3b : (i3 != 0) = true := by simp [hi3]
          go_wp2_with fail
          go_ret
          have b9 := B27.out
          have hz9 := b9.size
          exact ⟨rfl, (by repeat' (first | (with_reducible exact Below.refl _ _) | (with_reducible assumption) | (with_reducible refine Below.setCell ?_ ?_ _) | (with_reducible refine Below.alloc ?_ ?_ _) | (with_reducible refine Below.drew ?_) | (with_reducible refine below_drewN ?_ _) | (with_reducible refine Below.trans ?_ (Below.mono (by with_reducible assumption) ?_)) | go_size | (simp at *; omega)))⟩
end Go.Proofs.YtfnjboaocalidaaDoor
