/- Draws of small plain forms, lengths of bytes, numbers out of bytes. -/
import Derived.Test.YtodbmnbahldabaaDoorSrcB
import Derived.Test.YtodbmnbahldabaaDoorMemB
import Derived.Test.YtodbmnbahldabaaDoorFormB
import Derived.BigGuardPart
namespace Go.Proofs.YtodbmnbahldabaaDoor
open Go.ChangeShapes Go.WideShapes Go.ChangeAt Go.RowKit
set_option linter.unusedVariables false
set_option maxHeartbeats 8000000
set_option maxRecDepth 20000
/-- A small plain form. -/
def SmF (a b c : Int) : Prop := (-20 ≤ a ∧ a ≤ 20) ∧ (-20 ≤ b ∧ b ≤ 20) ∧ (-20 ≤ c ∧ c ≤ 20) ∧ vF a b c = true
theorem v116 : vF 1 1 6 = true := by decide +kernel
/-- A small plain form, and the source some choices on. -/
def RetFm (g : Nat) (v : Value) (M : Int) (w : World) (e : Ending) (w' : World) : Prop :=
  ∃ a b c : Int, e = .returned (.agg #[.int .i64 a, .int .i64 b, .int .i64 c]) ∧ SmF a b c ∧ Src w' g v M ∧ w.grownBy w' (some g)
theorem l11Draw_any (g : Nat) (ao : Option Addr) (n cap : Nat) (M : Int) (w : World) (hs : Src w g (.slice ao n cap) M) (hM : M ≤ 800000) (hr : ByteRow w ao n g) (hn : n ≤ 4096) :
    Calls Tryd.prog 75 #[.pointer (some ⟨g, 0, none⟩)] w (RetFm g (.slice ao n cap) (M + 100) w) := by
  have hz := hs.lt
  have S0 := Lib.hid hs
  have HR := Lib.hid hr
  have G0 := Lib.hid (gbRefl w (some g))
  clear hs hr
  go_enter Tryd.func75, Tryd.ntmps75
  go_wp2_with fail
  go_loopg [3] 7 (fun k u wr => ∃ i : Nat, u = .int .i64 i ∧ i + k = 7 ∧ i ≤ 6 ∧ Hid (Src wr g (.slice ao n cap) (M + 8 * i)) ∧ Hid (w.grownBy wr (some g)) ∧ Hid (heapAt wr w.heap.size = some (.cells #[.int .i64 0, .int .i64 0, .int .i64 0] 25 (0, 0))))
  case atStart => exact ⟨0, rfl, by omega, by omega, Lib.hid ((S0.out.alloc _).mono (by omega)), Lib.hid (gbAlloc G0.out _), Lib.hid (heapAt_new w _)⟩
  case round =>
    obtain ⟨i, rfl, hik, hil, SR, GR, RR⟩ := hrel
    have hzr := GR.out.size
    have szR := blk_lt RR.out
    by_cases hlt : i < 6
    · have i1 : (i : Int) < 6 := by omega
      go_wp2_with fail
      refine (pick_any 41 g ao n cap (M + 8 * i) _ (SR.out) (by omega) (HR.out.grown (GR.out) hz) hn (by omega)).mono ?_
      rintro e w1 ⟨x1, rfl, l1, u1, s1, g1⟩
      have S1 := Lib.hid s1
      have G1 := Lib.hid (gbTrans (GR.out) g1)
      have hz1 := G1.out.size
      have R1 : Hid (heapAt w1 (w.heap.size) = some (.cells #[.int .i64 0, .int .i64 0, .int .i64 0] 25 (0, 0))) := Lib.hid (hpG (RR.out) g1 (by omega))
      have hg1 := g1.size
      clear s1 g1
      go_wp2_with fail
      refine (pick_any 41 g ao n cap (M + 8 * i + 2) _ (S1.out.alloc _) (by omega) (HR.out.grown (gbAlloc G1.out _) hz) hn (by omega)).mono ?_
      rintro e w2 ⟨x2, rfl, l2, u2, s2, g2⟩
      have S2 := Lib.hid s2
      have G2 := Lib.hid (gbTrans (gbAlloc G1.out _) g2)
      have hz2 := G2.out.size
      have R2 : Hid (heapAt w2 (w.heap.size) = some (.cells #[.int .i64 0, .int .i64 0, .int .i64 0] 25 (0, 0))) := Lib.hid (hpG ((heapAt_old (blk_lt R1.out)).trans R1.out) g2 (by omega))
      have B2 : Hid (heapAt w2 (w1.heap.size) = some (.cells #[.int .i64 (x1 - 20), .int .i64 0, .int .i64 0] 25 (0, 0))) := Lib.hid (hpG (heapAt_new w1 _) g2 (by omega))
      have hg2 := g2.size
      clear s2 g2
      have c0 := B2.out
      obtain ⟨zB2, p1, p2, p3, f1, f2, f3⟩ := blk3 c0
      clear c0
      have hnb2 : w1.heap.size ≠ w.heap.size := by have := blk_lt R1.out; omega
      go_wp2_with fail
      refine (pick_any 41 g ao n cap (M + 8 * i + 2 + 2) _ (S2.out.set (by omega)) (by omega) (HR.out.grown (gbSetNew G2.out (by omega)) hz) hn (by omega)).mono ?_
      rintro e w3 ⟨x3, rfl, l3, u3, s3, g3⟩
      have S3 := Lib.hid s3
      have G3 := Lib.hid (gbTrans (gbSetNew G2.out (by omega)) g3)
      have hz3 := G3.out.size
      have R3 : Hid (heapAt w3 (w.heap.size) = some (.cells #[.int .i64 0, .int .i64 0, .int .i64 0] 25 (0, 0))) := Lib.hid (hpG ((heapAt_set_other (by omega)).trans R2.out) g3 (by omega))
      have B3 : Hid (heapAt w3 (w1.heap.size) = some (.cells #[.int .i64 (x1 - 20), .int .i64 (x2 - 20), .int .i64 0] 25 (0, 0))) := Lib.hid (hpG (by rw [heapAt_set, B2.out]; rfl) g3 (by omega))
      have hg3 := g3.size
      clear s3 g3
      clear p1 p2 p3 f1 f2 f3
      have c0 := B3.out
      obtain ⟨zB3, p1, p2, p3, f1, f2, f3⟩ := blk3 c0
      clear c0
      have szR3 := blk_lt R3.out
      have hne : w1.heap.size ≠ w.heap.size := by have := blk_lt R1.out; omega
      obtain ⟨V, hV⟩ : ∃ V, V = w3.setCell ⟨w1.heap.size, 2, none⟩ (.int .i64 (x3 - 20)) := ⟨_, rfl⟩
      have BV : heapAt V w1.heap.size = some (.cells #[.int .i64 (x1 - 20), .int .i64 (x2 - 20), .int .i64 (x3 - 20)] 25 (0, 0)) := by rw [hV, heapAt_set, B3.out]; rfl
      have RV : heapAt V w.heap.size = some (.cells #[.int .i64 0, .int .i64 0, .int .i64 0] 25 (0, 0)) := by rw [hV]; exact (heapAt_set_other (by omega)).trans R3.out
      have SV := Lib.hid (show Src V g (.slice ao n cap) _ by rw [hV]; exact S3.out.set (by omega))
      have GV := Lib.hid (show w.grownBy V (some g) by rw [hV]; exact gbSetNew G3.out (by omega))
      have OK := Lib.hid (l11Ok_any (x1 - 20) (x2 - 20) (x3 - 20))
      go_wp2_with fail
      rw [← hV]
      clear hV p1 p2 p3 f1 f2 f3
      cases hvv : vF (x1 - 20) (x2 - 20) (x3 - 20)
      · have OK2 := Lib.hid (by have h := OK.out; rw [hvv] at h; exact h)
        clear hvv
        refine (OK2.out _).mono ?_
        rintro e w5 ⟨rfl, b5⟩
        have S5 := Lib.hid (SV.out.below b5 SV.out.lt)
        have G5 := Lib.hid (gbBelow GV.out b5)
        have R5 := Lib.hid (blkK RV b5 (blk_lt RV))
        clear RV BV SV GV b5
        go_wp2_with fail
        go_roundg (gk - 1)
        case measure => omega
        case rel => exact ⟨i + 1, by go_num, by omega, by omega, Lib.hid (S5.out.mono (by omega)), G5, R5⟩
      · have OK2 := Lib.hid (by have h := OK.out; rw [hvv] at h; exact h)
        have HV := Lib.hid hvv
        clear hvv
        refine (OK2.out _).mono ?_
        rintro e w5 ⟨rfl, b5⟩
        have S5 := Lib.hid (SV.out.below b5 SV.out.lt)
        have G5 := Lib.hid (gbBelow GV.out b5)
        have R5 := blkK RV b5 (blk_lt RV)
        have B5 := blkK BV b5 (blk_lt BV)
        clear RV BV SV GV b5
        obtain ⟨zB5, p1, p2, p3, f1, f2, f3⟩ := blk3 B5
        obtain ⟨zR5, r1, r2, r3, e1, e2, e3⟩ := blk3 R5
        go_wp2_with fail
        apply body_row1 (w.heap.size) 25 Tryd.results75 Tryd.underlying25 rfl rfl rfl; (case q => simp (disch := (first | omega | (simp; done) | (simp; omega))) [*]; try rfl); (case hi => kernel_rfl)
        exact ⟨_, _, _, rfl, ⟨by omega, by omega, by omega, HV.out⟩, (((S5.out.set (by omega)).set (by omega)).set (by omega)).mono (by omega), gbSetNew (gbSetNew (gbSetNew G5.out (by omega)) (by omega)) (by omega)⟩
    · have i1 : ¬ (i : Int) < 6 := by omega
      have c0 := RR.out
      obtain ⟨zB, p1, p2, p3, f1, f2, f3⟩ := blk3 c0
      go_wp2_with fail
      apply body_row1 (w.heap.size) 25 Tryd.results75 Tryd.underlying25 rfl rfl rfl; (case q => simp (disch := (first | omega | (simp; done) | (simp; omega))) [*]; try rfl); (case hi => kernel_rfl)
      exact ⟨1, 1, 6, rfl, ⟨by omega, by omega, by omega, v116⟩, (((SR.out.set (by omega)).set (by omega)).set (by omega)).mono (by omega), gbSetNew (gbSetNew (gbSetNew GR.out (by omega)) (by omega)) (by omega)⟩
/-- A small plain form. -/
def RetFm1 (w : World) (e : Ending) (w' : World) : Prop := ∃ a b c : Int, e = .returned (.agg #[.int .i64 a, .int .i64 b, .int .i64 c]) ∧ SmF a b c ∧ Below w.heap.size w w'
end Go.Proofs.YtodbmnbahldabaaDoor
