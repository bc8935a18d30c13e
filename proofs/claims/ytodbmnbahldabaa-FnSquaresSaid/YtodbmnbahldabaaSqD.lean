/- What the draws of numbers for squares hand back. -/
import Derived.Test.YtodbmnbahldabaaSrcB
import Derived.Test.YtodbmnbahldabaaSqN
namespace Go.Proofs.Ytodbmnbahldabaa
open Go.ChangeShapes Go.WideShapes Go.ChangeAt Go.RowKit
set_option linter.unusedVariables false
set_option maxHeartbeats 8000000
set_option maxRecDepth 20000
/-- A number that P holds for, and the source some choices on. -/
def RetP (g : Nat) (v : Value) (M : Int) (P : Int → Prop) (w : World) (e : Ending) (w' : World) : Prop :=
  ∃ x : Int, e = .returned (.int .i64 x) ∧ P x ∧ Src w' g v M ∧ w.grownBy w' (some g)
theorem lit_cellsP {w : World} {b : Nat} {T : TypeId} {fr : Nat × Nat} (L : List Int) (h : heapAt w b = some (.cells ((L.map (Value.int .i64)).toArray) T fr)) :
    ∀ j, j < L.length → ∃ x, x ∈ L ∧ w.cell? ⟨b, j, none⟩ = some (.int .i64 x) := by
  intro j hj
  refine ⟨L[j], List.getElem_mem hj, ?_⟩
  rw [cell_of_row w b j _ T fr h]
  simp [hj]
theorem among_anyP (g : Nat) (ao : Option Addr) (n cap : Nat) (M : Int) (w : World) (hs : Src w g (.slice ao n cap) M) (hM : M ≤ 900000) (hr : ByteRow w ao n g) (hn : n ≤ 4096)
    (L : List Int) (b m c : Nat) (hL : ∀ j, j < m → ∃ x, x ∈ L ∧ w.cell? ⟨b, j, none⟩ = some (.int .i64 x)) (hm : 1 ≤ m ∧ m ≤ 1000) (hb : b ≠ g) (hbz : b < w.heap.size) :
    Calls Try.prog 48 #[.pointer (some ⟨g, 0, none⟩), .slice (some ⟨b, 0, none⟩) m c] w (RetP g (.slice ao n cap) (M + 2) (fun x => x ∈ L) w) := by
  have PK := Lib.hid (pick_any m g ao n cap M w hs hM hr hn (by omega))
  have HL := Lib.hid hL
  clear hs hr hL
  go_enter Try.func48, Try.ntmps48
  go_wp2_with fail
  refine PK.out.mono ?_
  rintro e w1 ⟨x, rfl, x0, x1, s1, g1⟩
  have S1 := Lib.hid s1
  have G1 := Lib.hid g1
  clear s1 g1
  obtain ⟨j, rfl⟩ := Int.eq_ofNat_of_zero_le x0
  obtain ⟨y, y0, hy⟩ := HL.out j (by omega)
  have Y0 := Lib.hid y0
  have hy1 : w1.cell? ⟨b, j, none⟩ = some (.int .i64 y) := (World.cell?_of_block (w := w) (a := ⟨b, j, none⟩) (G1.out.block b hbz (fun e => by simp at e; omega))).trans hy
  have j1 : (j : Int) < (m : Int) := by omega
  clear y0
  go_wp2_with fail
  go_ret
  exact ⟨y, rfl, Y0.out, S1.out, G1.out⟩
theorem amongP (L : List Int) (m : Nat) (hm : L.length = m) (hm1 : 1 ≤ m ∧ m ≤ 1000) (T : TypeId) (g : Nat) (ao : Option Addr) (n cap : Nat) (M : Int) (w : World) (hs : Src w g (.slice ao n cap) M) (hM : M ≤ 900000) (hr : ByteRow w ao n g) (hn : n ≤ 4096) :
    Calls Try.prog 48 #[.pointer (some ⟨g, 0, none⟩), .slice (some ⟨w.heap.size, 0, none⟩) m m] (w.alloc (.cells ((L.map (Value.int .i64)).toArray) T)) (RetP g (.slice ao n cap) (M + 2) (fun x => x ∈ L) w) := by
  subst hm
  have hz := hs.lt
  refine (among_anyP g ao n cap M _ (hs.alloc _) hM (hr.below (Below.alloc (Below.refl w.heap.size w) (Nat.le_refl _) _) (by omega)) hn L w.heap.size L.length L.length (lit_cellsP L (heapAt_new w _)) hm1 (by omega) (by simp)).mono ?_
  rintro e w1 ⟨x, h1, h2, h4, h5⟩
  exact ⟨x, h1, h2, h4, gbTrans (gbAlloc (gbRefl _ _) _) h5⟩
theorem sqset_sum {x y : Int} (hx : 0 ≤ x ∧ x ≤ 59) (hy : 0 ≤ y ∧ y ≤ 59) : SqSet (x * x + y * y) ∧ 0 ≤ x * x ∧ x * x ≤ 3481 ∧ 0 ≤ y * y ∧ y * y ≤ 3481 := by
  have h1 := Int.mul_nonneg hx.1 hx.1
  have h2 := Int.mul_nonneg hy.1 hy.1
  have h3 : x * x ≤ 59 * 59 := Int.mul_le_mul hx.2 hx.2 hx.1 (by omega)
  have h4 : y * y ≤ 59 * 59 := Int.mul_le_mul hy.2 hy.2 hy.1 (by omega)
  exact ⟨Or.inr ⟨by omega, by omega⟩, h1, by omega, h2, by omega⟩
theorem l12Number_any (g : Nat) (ao : Option Addr) (n cap : Nat) (M : Int) (w : World) (hs : Src w g (.slice ao n cap) M) (hM : M ≤ 800000) (hr : ByteRow w ao n g) (hn : n ≤ 4096) :
    Calls Try.prog 44 #[.pointer (some ⟨g, 0, none⟩)] w (RetP g (.slice ao n cap) (M + 20) SqSet w) := by
  have hz := hs.lt
  have S0 := Lib.hid hs
  have HR := Lib.hid hr
  have G0 := Lib.hid (gbRefl w (some g))
  clear hs hr
  go_enter Try.func44, Try.ntmps44
  go_wp2_with fail
  refine (one_any 8 g ao n cap M _ S0.out (by omega) (HR.out.grown G0.out hz) hn (by omega)).mono ?_
  rintro e w1 ⟨b, rfl, s1, g1⟩
  have S1 := Lib.hid s1
  have G1 := Lib.hid (gbTrans G0.out g1)
  clear s1 g1
  cases b
  · skip
    go_wp2_with fail
    refine (one_any 2 g ao n cap (M + 2) _ S1.out (by omega) (HR.out.grown G1.out hz) hn (by omega)).mono ?_
    rintro e w2 ⟨b, rfl, s2, g2⟩
    have S2 := Lib.hid s2
    have G2 := Lib.hid (gbTrans G1.out g2)
    clear s2 g2
    cases b
    · skip
      go_wp2_with fail
      refine (pick_any 3000 g ao n cap (M + 2 + 2) _ S2.out (by omega) (HR.out.grown G2.out hz) hn (by omega)).mono ?_
      rintro e w3 ⟨x, rfl, xl, xu, s3, g3⟩
      have S3 := Lib.hid s3
      have G3 := Lib.hid (gbTrans G2.out g3)
      clear s3 g3
      go_wp2_with fail
      go_ret
      exact ⟨_, rfl, Or.inr ⟨by omega, by omega⟩, S3.out.mono (by omega), G3.out⟩
    · skip
      go_wp2_with fail
      refine (pick_any 60 g ao n cap (M + 2 + 2) _ S2.out (by omega) (HR.out.grown G2.out hz) hn (by omega)).mono ?_
      rintro e w3 ⟨x, rfl, xl, xu, s3, g3⟩
      have S3 := Lib.hid s3
      have G3 := Lib.hid (gbTrans G2.out g3)
      clear s3 g3
      go_wp2_with fail
      refine (pick_any 60 g ao n cap (M + 2 + 2 + 2) _ S3.out (by omega) (HR.out.grown G3.out hz) hn (by omega)).mono ?_
      rintro e w4 ⟨y, rfl, yl, yu, s4, g4⟩
      have S4 := Lib.hid s4
      have G4 := Lib.hid (gbTrans G3.out g4)
      clear s4 g4
      obtain ⟨q0, q1, q2, q3, q4⟩ := sqset_sum (x := x) (y := y) (by omega) (by omega)
      have Q0 := Lib.hid q0
      clear q0
      go_wp2_with fail
      go_ret
      exact ⟨_, rfl, Q0.out, S4.out.mono (by omega), G4.out⟩
  · skip
    go_wp2_with fail
    refine (amongP [-1, 0, 1, 2, 1000000, 1000001, 999983, 9223372036854775807] 8 rfl (by omega) _ g ao n cap (M + 2) _ S1.out (by omega) (HR.out.grown G1.out hz) hn).mono ?_
    rintro e w2 ⟨x, rfl, xp, s2, g2⟩
    have S2 := Lib.hid s2
    have G2 := Lib.hid (gbTrans G1.out g2)
    clear s2 g2
    have XP := Lib.hid xp
    clear xp
    go_wp2_with fail
    go_ret
    exact ⟨_, rfl, Or.inl XP.out, S2.out.mono (by omega), G2.out⟩
/-- A number that P holds for; old memory stands. -/
def RetPN (P : Int → Prop) (w : World) (e : Ending) (w' : World) : Prop := ∃ x : Int, e = .returned (.int .i64 x) ∧ P x ∧ Below w.heap.size w w'
theorem drawTwoSquares_any (ao : Option Addr) (n cap : Nat) (w : World) (hr : ByteRow w ao n w.heap.size) (hn : n ≤ 4096) : Calls Try.prog 15 #[.slice ao n cap] w (RetPN SqSet w) := by
  have HR := Lib.hid hr
  clear hr
  go_enter Try.func15, Try.ntmps15
  go_wp2_with fail
  refine (from_any ao n cap _).mono ?_
  rintro e w1 ⟨rfl, hw1⟩
  have s1 := from_src ao n cap w
  have b1 : Below w.heap.size w (w.alloc (.cells #[.slice ao n cap, .int .i64 0, .int .u64 0] 67)) := (by repeat' (first | (with_reducible exact Below.refl _ _) | (with_reducible assumption) | (with_reducible refine Below.setCell ?_ ?_ _) | (with_reducible refine Below.alloc ?_ ?_ _) | (with_reducible refine Below.drew ?_) | (with_reducible refine below_drewN ?_ _) | (with_reducible refine Below.trans ?_ (Below.mono (by with_reducible assumption) ?_)) | go_size | (simp at *; omega)))
  rw [← hw1] at s1 b1
  clear hw1
  have S1 := Lib.hid s1
  have B1 := Lib.hid b1
  clear s1 b1
  go_wp2_with fail
  refine (l12Number_any w.heap.size ao n cap 0 w1 S1.out (by omega) (HR.out.below B1.out (Nat.le_refl _)) hn).mono ?_
  rintro e w2 ⟨x, rfl, xp, s2, g2⟩
  have B2 := Lib.hid (Below.ofGrown B1.out g2 (Nat.le_refl _))
  have XP := Lib.hid xp
  clear s2 g2 xp
  go_wp2_with fail
  go_ret
  exact ⟨_, rfl, XP.out, B2.out⟩
theorem Below.ofGrownG {w a w' : World} {g : Nat} (hb : Below g w a) (hg : a.grownBy w' (some g)) (hz : w.heap.size = g) : Below w.heap.size w w' := by
  subst hz
  exact Below.ofGrown hb hg (Nat.le_refl _)
theorem drawMinusRoot_any (ao : Option Addr) (n cap : Nat) (w : World) (hr : ByteRow w ao n w.heap.size) (hn : n ≤ 4096) : Calls Try.prog 18 #[.slice ao n cap] w (RetPN (fun x => 0 ≤ x ∧ x ≤ 100001) w) := by
  have HR := Lib.hid hr
  clear hr
  go_enter Try.func18, Try.ntmps18
  go_wp2_with fail
  refine (from_any ao n cap _).mono ?_
  rintro e w1 ⟨rfl, hw1⟩
  have s1 := from_src ao n cap w
  have b1 : Below w.heap.size w (w.alloc (.cells #[.slice ao n cap, .int .i64 0, .int .u64 0] 67)) := (by repeat' (first | (with_reducible exact Below.refl _ _) | (with_reducible assumption) | (with_reducible refine Below.setCell ?_ ?_ _) | (with_reducible refine Below.alloc ?_ ?_ _) | (with_reducible refine Below.drew ?_) | (with_reducible refine below_drewN ?_ _) | (with_reducible refine Below.trans ?_ (Below.mono (by with_reducible assumption) ?_)) | go_size | (simp at *; omega)))
  rw [← hw1] at s1 b1
  clear hw1
  generalize hg : w.heap.size = g at *
  have S1 := Lib.hid s1
  have B1 := Lib.hid b1
  have HR1 := Lib.hid (HR.out.below b1 (Nat.le_refl _))
  have G1 := Lib.hid (gbRefl w1 (some g))
  have hz := s1.lt
  clear s1 b1
  go_wp2_with fail
  refine (one_any 10 g ao n cap 0 _ S1.out (by omega) (HR1.out.grown G1.out hz) hn (by omega)).mono ?_
  rintro e w2 ⟨b, rfl, s2, g2⟩
  have S2 := Lib.hid s2
  have G2 := Lib.hid (gbTrans G1.out g2)
  clear s2 g2
  cases b
  · skip
    go_wp2_with fail
    refine (pick_any 2000 g ao n cap (0 + 2) _ S2.out (by omega) (HR1.out.grown G2.out hz) hn (by omega)).mono ?_
    rintro e w3 ⟨x, rfl, xl, xu, s3, g3⟩
    have S3 := Lib.hid s3
    have G3 := Lib.hid (gbTrans G2.out g3)
    clear s3 g3
    have B3 := Lib.hid (Below.ofGrownG B1.out G3.out hg)
    go_wp2_with fail
    go_ret
    exact ⟨_, rfl, ⟨by omega, by omega⟩, B3.out⟩
  · skip
    go_wp2_with fail
    refine (amongP [0, 1, 2, 100000, 100001] 5 rfl (by omega) _ g ao n cap (0 + 2) _ S2.out (by omega) (HR1.out.grown G2.out hz) hn).mono ?_
    rintro e w3 ⟨x, rfl, xp, s3, g3⟩
    have S3 := Lib.hid s3
    have G3 := Lib.hid (gbTrans G2.out g3)
    clear s3 g3
    have XP := Lib.hid xp
    clear xp
    have B3 := Lib.hid (Below.ofGrownG B1.out G3.out hg)
    go_wp2_with fail
    go_ret
    exact ⟨_, rfl, by have h := XP.out; simp at h; omega, B3.out⟩
/-- Two numbers that P holds for; old memory stands. -/
def RetPN2 (P : Int → Int → Prop) (w : World) (e : Ending) (w' : World) : Prop := ∃ x y : Int, e = .returned (.tuple #[.int .i64 x, .int .i64 y]) ∧ P x y ∧ Below w.heap.size w w'
theorem drawSFR_any (ao : Option Addr) (n cap : Nat) (w : World) (hr : ByteRow w ao n w.heap.size) (hn : n ≤ 4096) : Calls Try.prog 21 #[.slice ao n cap] w (RetPN2 (fun k r => SumOk k r ∧ -1 ≤ k ∧ k ≤ 1000001) w) := by
  have HR := Lib.hid hr
  clear hr
  go_enter Try.func21, Try.ntmps21
  go_wp2_with fail
  refine (from_any ao n cap _).mono ?_
  rintro e w1 ⟨rfl, hw1⟩
  have s1 := from_src ao n cap w
  have b1 : Below w.heap.size w (w.alloc (.cells #[.slice ao n cap, .int .i64 0, .int .u64 0] 67)) := (by repeat' (first | (with_reducible exact Below.refl _ _) | (with_reducible assumption) | (with_reducible refine Below.setCell ?_ ?_ _) | (with_reducible refine Below.alloc ?_ ?_ _) | (with_reducible refine Below.drew ?_) | (with_reducible refine below_drewN ?_ _) | (with_reducible refine Below.trans ?_ (Below.mono (by with_reducible assumption) ?_)) | go_size | (simp at *; omega)))
  rw [← hw1] at s1 b1
  clear hw1
  generalize hg : w.heap.size = g at *
  have S1 := Lib.hid s1
  have B1 := Lib.hid b1
  have HR1 := Lib.hid (HR.out.below b1 (Nat.le_refl _))
  have G1 := Lib.hid (gbRefl w1 (some g))
  have hz := s1.lt
  clear s1 b1
  go_wp2_with fail
  refine (pick_any 2000 g ao n cap 0 _ S1.out (by omega) (HR1.out.grown G1.out hz) hn (by omega)).mono ?_
  rintro e w2 ⟨x, rfl, xl, xu, s2, g2⟩
  have S2 := Lib.hid s2
  have G2 := Lib.hid (gbTrans G1.out g2)
  clear s2 g2
  obtain ⟨m, hm⟩ : ∃ m, 2 + x = m := ⟨_, rfl⟩
  have hm2 : 2 ≤ m ∧ m ≤ 2001 := by omega
  clear xl xu
  go_wp2_with fail
  refine (one_any 12 g ao n cap (0 + 2) _ S2.out (by omega) (HR1.out.grown G2.out hz) hn (by omega)).mono ?_
  rintro e w3 ⟨b, rfl, s3, g3⟩
  have S3 := Lib.hid s3
  have G3 := Lib.hid (gbTrans G2.out g3)
  clear s3 g3
  cases b
  · skip
    go_wp2_with fail
    go_loopg [6] 8 (fun k u wr => ∃ j : Int, u = .int .i64 j ∧ j + k = 8 ∧ 0 ≤ j ∧ Hid (0 < j → (mroot m).2 ≠ 0) ∧ Hid (Src wr g (.slice ao n cap) (0 + 2 + 2)) ∧ Hid (w1.grownBy wr (some g)))
    case atStart => exact ⟨0, rfl, by omega, by omega, Lib.hid (by omega), S3, G3⟩
    case round =>
      obtain ⟨j, rfl, hj, hj0, HJ, SJ, GJ⟩ := hrel
      by_cases hj8 : j < 8
      · have MR := Lib.hid (sMinusRoot_any (m + j))
        have MZ := Lib.hid (fun h => mroot_small (k := m + j) (by omega) h)
        have MN := Lib.hid (show (mroot (m + j)).2 ≠ 0 → (j = 0 → (mroot m).2 ≠ 0) from fun h e => by rw [e, Int.add_zero] at h; exact h)
        generalize mroot (m + j) = R at *
        obtain ⟨r, c⟩ := R
        by_cases hc : c = 0
        · subst hc
          obtain ⟨k1, k2, k3, k4⟩ := MZ.out rfl
          have K1 := Lib.hid k1
          have K2 := Lib.hid k2
          clear k1 k2
          go_wp2_with (go_at_call 20; refine (MR.out _).mono ?_; rintro e w1 ⟨rfl, rfl⟩)
          refine (one_any 3 g ao n cap (0 + 2 + 2) _ SJ.out (by omega) (HR1.out.grown GJ.out hz) hn (by omega)).mono ?_
          rintro e w4 ⟨b, rfl, s4, g4⟩
          have B4 := Lib.hid (Below.ofGrownG B1.out (gbTrans GJ.out g4) hg)
          clear s4 g4
          cases b
          · go_wp2_with fail
            go_ret2
            exact ⟨_, _, rfl, ⟨K1.out, by omega, by omega⟩, B4.out⟩
          · go_wp2_with fail
            go_ret2
            exact ⟨_, _, rfl, ⟨K2.out, by omega, by omega⟩, B4.out⟩
        · have hcb : (c == 0) = false := by simp [hc]
          have HN : Hid (0 < j + 1 → (mroot m).2 ≠ 0) := Lib.hid (fun _ => by
            by_cases e : j = 0
            · exact MN.out hc e
            · exact HJ.out (by omega))
          clear hc
          go_wp2_with (go_at_call 20; refine (MR.out _).mono ?_; rintro e w1 ⟨rfl, rfl⟩)
          go_roundg (gk - 1)
          case measure => omega
          case rel => exact ⟨j + 1, rfl, by omega, by omega, HN, SJ, GJ⟩
      · have hj9 : j = 8 := by omega
        subst hj9
        go_wp2_with fail
        refine (pick_any (m + 2) g ao n cap (0 + 2 + 2) _ SJ.out (by omega) (HR1.out.grown GJ.out hz) hn (by omega)).mono ?_
        rintro e w4 ⟨y, rfl, yl, yu, s4, g4⟩
        have B4 := Lib.hid (Below.ofGrownG B1.out (gbTrans GJ.out g4) hg)
        have HS := Lib.hid (sum_none (k := m) (r := y) (by omega) (HJ.out (by omega)))
        clear s4 g4
        go_wp2_with fail
        go_ret2
        exact ⟨_, _, rfl, ⟨HS.out, by omega, by omega⟩, B4.out⟩
  · skip
    go_wp2_with fail
    refine (amongP [-1, 1, 1000000, 1000001] 4 rfl (by omega) _ g ao n cap (0 + 2 + 2) _ S3.out (by omega) (HR1.out.grown G3.out hz) hn).mono ?_
    rintro e w4 ⟨k, rfl, kp, s4, g4⟩
    have S4 := Lib.hid s4
    have G4 := Lib.hid (gbTrans G3.out g4)
    clear s4 g4
    go_wp2_with fail
    refine (amongP [-1, 0, 1, 1000] 4 rfl (by omega) _ g ao n cap (0 + 2 + 2 + 2) _ S4.out (by omega) (HR1.out.grown G4.out hz) hn).mono ?_
    rintro e w5 ⟨r, rfl, rp, s5, g5⟩
    have S5 := Lib.hid s5
    have G5 := Lib.hid (gbTrans G4.out g5)
    clear s5 g5
    have HS := Lib.hid (sum_among kp rp)
    have KP := Lib.hid kp
    clear kp rp
    have B5 := Lib.hid (Below.ofGrownG B1.out G5.out hg)
    go_wp2_with fail
    go_ret2
    exact ⟨_, _, rfl, ⟨HS.out, by have h := KP.out; simp at h; omega, by have h := KP.out; simp at h; omega⟩, B5.out⟩
end Go.Proofs.Ytodbmnbahldabaa
