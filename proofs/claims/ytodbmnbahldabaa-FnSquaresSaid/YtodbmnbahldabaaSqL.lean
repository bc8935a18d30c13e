/- Two squares have their sum, there is a proof just if there are none, roots of -1 lead to squares: the walk. -/
import Derived.Test.YtodbmnbahldabaaSqD
import Derived.BigGuardPart
namespace Go.Proofs.Ytodbmnbahldabaa
open Go.ChangeShapes Go.WideShapes Go.ChangeAt Go.RowKit
set_option linter.unusedVariables false
set_option maxHeartbeats 8000000
set_option maxRecDepth 20000
theorem f6big_any (ao : Option Addr) (n cap : Nat) (w : World) :
    Calls Try.prog 14 #[.slice ao n cap] w fun e w' => e = .returned (.bool (decide (4096 < n))) ∧ w = w' := by
  by_cases h : 4096 < n
  · have h1 : (4096 : Int) < (n : Int) := by omega
    go_enter Try.func14, Try.ntmps14
    go_wp2_with fail
    go_ret
    exact ⟨ret_bool (by first | (simp; done) | (simp [h]; done)), rfl⟩
  · have h1 : ¬ (4096 : Int) < (n : Int) := by omega
    go_enter Try.func14, Try.ntmps14
    go_wp2_with fail
    go_ret
    exact ⟨ret_bool (by first | (simp; done) | (simp [h]; done)), rfl⟩
theorem sq_nn (x : Int) : 0 ≤ x * x := by rw [← abs_sq]; exact Int.mul_nonneg (abs_nn x) (abs_nn x)
theorem sq_all {n : Int} (hs : SqSet n) :
    (twR n = (0, 0, 2) ∧ csR n = (0, 2) ∧ sproof n = (0, 2)) ∨
    (∃ a b cnt p c3 : Int, twR n = (a, b, 0) ∧ csR n = (cnt, 0) ∧ sproof n = (p, c3) ∧ a * a + b * b = n ∧ 0 ≤ b ∧ b ≤ a ∧ a ≤ 1000 ∧ (cnt == 0) = false ∧ (c3 = 2 ∨ c3 = 3)) ∨
    (∃ p c3 : Int, twR n = (0, 0, 3) ∧ csR n = (0, 0) ∧ sproof n = (p, c3) ∧ (c3 = 2 ∨ c3 = 0)) := by
  by_cases hn : 0 ≤ n ∧ n ≤ 1000000
  · obtain ⟨c1, c2⟩ := cs_two hn
    have hp := sproof_two hs
    generalize sproof n = P at *
    generalize csR n = C at *
    obtain ⟨p, c3⟩ := P
    obtain ⟨cnt, cc⟩ := C
    simp only at c1 c2 hp
    subst c1
    rcases tw_cases hn with ⟨a, b, h1, h2, h3, h4, h5⟩ | ⟨h1, h2⟩
    · have ht : Two n := ⟨a, b, h2⟩
      refine Or.inr (Or.inl ⟨a, b, cnt, p, c3, h1, rfl, rfl, h2, h3, h4, h5, ?_, ?_⟩)
      · have : ¬ cnt = 0 := fun e => c2.1 e ht
        simp [this]
      · rcases hp with hp | ⟨-, -, hp | hp⟩
        · exact Or.inl hp
        · exact absurd ht hp.2
        · exact Or.inr hp.1
    · have hc := c2.2 h2
      subst hc
      refine Or.inr (Or.inr ⟨p, c3, h1, rfl, rfl, ?_⟩)
      rcases hp with hp | ⟨-, -, hp | hp⟩
      · exact Or.inl hp
      · exact Or.inr hp.1
      · exact absurd hp.2 h2
  · refine Or.inl ⟨?_, ?_, ?_⟩
    · unfold twR; rw [if_neg (by rw [inR_iff]; exact hn)]
    · unfold csR; rw [if_neg (by rw [inR_iff]; exact hn)]
    · unfold sproof; rw [if_neg (by rw [inR_iff]; omega)]
theorem sqset_b {n : Int} (hs : SqSet n) : -1 ≤ n ∧ n ≤ 9223372036854775807 := by
  rcases hs with h | h
  · simp at h; omega
  · omega
theorem walk_FnSquares (a : Option Addr) (len cap : Nat) (z : List Int) {w : World} (hr : IsRow .u8 w a len cap z) :
    Calls Try.prog 5 #[.slice a len cap] w fun e w' => e = .returned (.bool true) ∧ Below w.heap.size w w' := by
  have HR := Lib.hid hr.bytes
  clear hr
  by_cases hbig : 4096 < len
  · have F6 := Lib.hid (by have h := f6big_any a len cap; rw [decide_eq_true hbig] at h; exact h)
    go_enter Try.func5, Try.ntmps5
    go_wp2_with (go_at_call 14; refine (F6.out _).mono ?_; rintro e w1 ⟨rfl, rfl⟩)
    go_ret
    exact ⟨rfl, (by repeat' (first | (with_reducible exact Below.refl _ _) | (with_reducible assumption) | (with_reducible refine Below.setCell ?_ ?_ _) | (with_reducible refine Below.alloc ?_ ?_ _) | (with_reducible refine Below.drew ?_) | (with_reducible refine below_drewN ?_ _) | (with_reducible refine Below.trans ?_ (Below.mono (by with_reducible assumption) ?_)) | go_size | (simp at *; omega)))⟩
  · have F6 := Lib.hid (by have h := f6big_any a len cap; rw [decide_eq_false hbig] at h; exact h)
    go_enter Try.func5, Try.ntmps5
    go_wp2_with (go_at_call 14; refine (F6.out _).mono ?_; rintro e w1 ⟨rfl, rfl⟩)
    go_wp2_with fail
    refine (drawTwoSquares_any a len cap w HR.out (by omega)).mono ?_
    rintro e w1 ⟨n, rfl, np, b1⟩
    have B1 := Lib.hid b1
    have NA := Lib.hid (sq_all np)
    have hnb := sqset_b np
    clear b1 np
    have I1 := Lib.hid (fun w => iTwoSquares_any n w)
    have I2 := Lib.hid (fun w => sTwoSquares_any n w)
    have I3 := Lib.hid (fun w => iCountSquares_any n w)
    have I4 := Lib.hid (fun w => sCountSquares_any n w)
    have I5 := Lib.hid (fun w => squaresProof_any n w)
    have I6 := Lib.hid (fun w => sSquaresProof_any n w)
    generalize twR n = TW at *
    generalize csR n = CS at *
    generalize sproof n = SP at *
    obtain ⟨ta, tb, tc⟩ := TW
    obtain ⟨cn, cc⟩ := CS
    obtain ⟨pn, pc⟩ := SP
    go_wp2_with (first | (go_at_call 11; refine (I1.out _).mono ?_; rintro e w1 ⟨rfl, rfl⟩) | (go_at_call 10; refine (I2.out _).mono ?_; rintro e w1 ⟨rfl, rfl⟩) | (go_at_call 13; refine (I3.out _).mono ?_; rintro e w1 ⟨rfl, rfl⟩) | (go_at_call 12; refine (I4.out _).mono ?_; rintro e w1 ⟨rfl, rfl⟩) | (go_at_call 16; refine (I5.out _).mono ?_; rintro e w1 ⟨rfl, rfl⟩) | (go_at_call 17; refine (I6.out _).mono ?_; rintro e w1 ⟨rfl, rfl⟩))
    clear I1 I2 I3 I4 I5 I6
    refine (drawMinusRoot_any a len cap w1 ((HR.out.below B1.out (Nat.le_refl _)).mono B1.out.size) (by omega)).mono ?_
    rintro e w2 ⟨m, rfl, ⟨m0, m1⟩, b2⟩
    have B2 : Hid (Below w.heap.size w w2) := Lib.hid (B1.out.trans (b2.mono B1.out.size))
    clear b2
    have I1 := Lib.hid (fun w => minusRoot_any m w)
    have I2 := Lib.hid (fun w => sMinusRoot_any m w)
    have HMR := Lib.hid (fun h => mroot_zero (n := m) h)
    generalize mroot m = MR at *
    obtain ⟨mr, mc⟩ := MR
    go_wp2_with (first | (go_at_call 19; refine (I1.out _).mono ?_; rintro e w1 ⟨rfl, rfl⟩) | (go_at_call 20; refine (I2.out _).mono ?_; rintro e w1 ⟨rfl, rfl⟩))
    clear I1 I2
    refine (drawSFR_any a len cap w2 ((HR.out.below B2.out (Nat.le_refl _)).mono B2.out.size) (by omega)).mono ?_
    rintro e w3 ⟨k, r, rfl, ⟨ksum, k0, k1⟩, b3⟩
    have B3 : Hid (Below w.heap.size w w3) := Lib.hid (B2.out.trans (b3.mono B2.out.size))
    have HSR := Lib.hid ksum
    clear b3 ksum
    have I1 := Lib.hid (fun w => squaresFromRoot_any k r w (by omega))
    have I2 := Lib.hid (fun w => sSquaresFromRoot_any k r w (by omega))
    unfold SumOk at HSR
    generalize sroot k r = SR at *
    obtain ⟨sa, sb, sc⟩ := SR
    go_wp2_with fail
    refine (I1.out _).mono ?_
    rintro e w4 ⟨rfl, b4⟩
    have B4 : Hid (Below w.heap.size w w4) := Lib.hid (B3.out.trans (b4.mono B3.out.size))
    clear b4
    go_wp2_with fail
    refine (I2.out _).mono ?_
    rintro e w5 ⟨rfl, b5⟩
    have B9 : Hid (Below w.heap.size w w5) := Lib.hid (B4.out.trans (b5.mono B4.out.size))
    clear b5 I1 I2
    try simp only at HSR
    try simp only at HMR
    rcases NA.out with h | ⟨xa, xb, cnt, p, c3, h⟩ | ⟨p, c3, h⟩
    · simp only [Prod.mk.injEq] at h
      obtain ⟨⟨rfl, rfl, rfl⟩, ⟨rfl, rfl⟩, ⟨rfl, rfl⟩⟩ := h
      by_cases hsc : sc = 0
      · subst hsc
        obtain ⟨hsum, hk0, hk1⟩ := HSR.out rfl
        have q1 := sq_nn sa
        have q2 := sq_nn sb
        have q3 : sa * sa ≤ 1000000 := by omega
        have q4 : sb * sb ≤ 1000000 := by omega
        have hne : (sa * sa + sb * sb != k) = false := by rw [hsum]; simp
        clear hsum
        by_cases hmc : mc = 0
        · subst hmc
          obtain ⟨hm2, hm3, hq0, hq1, hmod⟩ := HMR.out rfl
          have t1 : 0 ≤ mr * mr ∧ mr * mr ≤ 10000000000 := by have := mulP (a := mr) (b := mr) ⟨hq0, hq1⟩ ⟨hq0, hq1⟩; omega
          have hmz : m ≠ 0 := by omega
          have hmb : (m == 0) = false := by simp [hmz]
          have hme : ((mr * mr + 1) % m != 0) = false := by rw [hmod]; rfl
          clear hmod
          go_wp2_with fail
          go_ret
          have b9 := B9.out
          exact ⟨rfl, b9⟩
        · have hmb : (mc == 0) = false := by simp [hmc]
          clear hmc
          go_wp2_with fail
          go_ret
          have b9 := B9.out
          exact ⟨rfl, b9⟩
      · have hsb : (sc == 0) = false := by simp [hsc]
        clear hsc
        by_cases hmc : mc = 0
        · subst hmc
          obtain ⟨hm2, hm3, hq0, hq1, hmod⟩ := HMR.out rfl
          have t1 : 0 ≤ mr * mr ∧ mr * mr ≤ 10000000000 := by have := mulP (a := mr) (b := mr) ⟨hq0, hq1⟩ ⟨hq0, hq1⟩; omega
          have hmz : m ≠ 0 := by omega
          have hmb : (m == 0) = false := by simp [hmz]
          have hme : ((mr * mr + 1) % m != 0) = false := by rw [hmod]; rfl
          clear hmod
          go_wp2_with fail
          go_ret
          have b9 := B9.out
          exact ⟨rfl, b9⟩
        · have hmb : (mc == 0) = false := by simp [hmc]
          clear hmc
          go_wp2_with fail
          go_ret
          have b9 := B9.out
          exact ⟨rfl, b9⟩
    · simp only [Prod.mk.injEq] at h
      obtain ⟨⟨rfl, rfl, rfl⟩, ⟨rfl, rfl⟩, ⟨rfl, rfl⟩, hab, hb0, hba, ha1, hcnt, hc3⟩ := h
      have u1 := mulP (a := ta) (b := ta) (A := 1000) (B := 1000) ⟨by omega, by omega⟩ ⟨by omega, by omega⟩
      have u2 := mulP (a := tb) (b := tb) (A := 1000) (B := 1000) ⟨by omega, by omega⟩ ⟨by omega, by omega⟩
      have hsumB : (ta * ta + tb * tb == n) = true := by rw [hab]; simp
      clear hab
      rcases hc3 with rfl | rfl
      · skip
        by_cases hsc : sc = 0
        · subst hsc
          obtain ⟨hsum, hk0, hk1⟩ := HSR.out rfl
          have q1 := sq_nn sa
          have q2 := sq_nn sb
          have q3 : sa * sa ≤ 1000000 := by omega
          have q4 : sb * sb ≤ 1000000 := by omega
          have hne : (sa * sa + sb * sb != k) = false := by rw [hsum]; simp
          clear hsum
          by_cases hmc : mc = 0
          · subst hmc
            obtain ⟨hm2, hm3, hq0, hq1, hmod⟩ := HMR.out rfl
            have t1 : 0 ≤ mr * mr ∧ mr * mr ≤ 10000000000 := by have := mulP (a := mr) (b := mr) ⟨hq0, hq1⟩ ⟨hq0, hq1⟩; omega
            have hmz : m ≠ 0 := by omega
            have hmb : (m == 0) = false := by simp [hmz]
            have hme : ((mr * mr + 1) % m != 0) = false := by rw [hmod]; rfl
            clear hmod
            go_wp2_with fail
            go_ret
            have b9 := B9.out
            exact ⟨rfl, b9⟩
          · have hmb : (mc == 0) = false := by simp [hmc]
            clear hmc
            go_wp2_with fail
            go_ret
            have b9 := B9.out
            exact ⟨rfl, b9⟩
        · have hsb : (sc == 0) = false := by simp [hsc]
          clear hsc
          by_cases hmc : mc = 0
          · subst hmc
            obtain ⟨hm2, hm3, hq0, hq1, hmod⟩ := HMR.out rfl
            have t1 : 0 ≤ mr * mr ∧ mr * mr ≤ 10000000000 := by have := mulP (a := mr) (b := mr) ⟨hq0, hq1⟩ ⟨hq0, hq1⟩; omega
            have hmz : m ≠ 0 := by omega
            have hmb : (m == 0) = false := by simp [hmz]
            have hme : ((mr * mr + 1) % m != 0) = false := by rw [hmod]; rfl
            clear hmod
            go_wp2_with fail
            go_ret
            have b9 := B9.out
            exact ⟨rfl, b9⟩
          · have hmb : (mc == 0) = false := by simp [hmc]
            clear hmc
            go_wp2_with fail
            go_ret
            have b9 := B9.out
            exact ⟨rfl, b9⟩
      · skip
        by_cases hsc : sc = 0
        · subst hsc
          obtain ⟨hsum, hk0, hk1⟩ := HSR.out rfl
          have q1 := sq_nn sa
          have q2 := sq_nn sb
          have q3 : sa * sa ≤ 1000000 := by omega
          have q4 : sb * sb ≤ 1000000 := by omega
          have hne : (sa * sa + sb * sb != k) = false := by rw [hsum]; simp
          clear hsum
          by_cases hmc : mc = 0
          · subst hmc
            obtain ⟨hm2, hm3, hq0, hq1, hmod⟩ := HMR.out rfl
            have t1 : 0 ≤ mr * mr ∧ mr * mr ≤ 10000000000 := by have := mulP (a := mr) (b := mr) ⟨hq0, hq1⟩ ⟨hq0, hq1⟩; omega
            have hmz : m ≠ 0 := by omega
            have hmb : (m == 0) = false := by simp [hmz]
            have hme : ((mr * mr + 1) % m != 0) = false := by rw [hmod]; rfl
            clear hmod
            go_wp2_with fail
            go_ret
            have b9 := B9.out
            exact ⟨rfl, b9⟩
          · have hmb : (mc == 0) = false := by simp [hmc]
            clear hmc
            go_wp2_with fail
            go_ret
            have b9 := B9.out
            exact ⟨rfl, b9⟩
        · have hsb : (sc == 0) = false := by simp [hsc]
          clear hsc
          by_cases hmc : mc = 0
          · subst hmc
            obtain ⟨hm2, hm3, hq0, hq1, hmod⟩ := HMR.out rfl
            have t1 : 0 ≤ mr * mr ∧ mr * mr ≤ 10000000000 := by have := mulP (a := mr) (b := mr) ⟨hq0, hq1⟩ ⟨hq0, hq1⟩; omega
            have hmz : m ≠ 0 := by omega
            have hmb : (m == 0) = false := by simp [hmz]
            have hme : ((mr * mr + 1) % m != 0) = false := by rw [hmod]; rfl
            clear hmod
            go_wp2_with fail
            go_ret
            have b9 := B9.out
            exact ⟨rfl, b9⟩
          · have hmb : (mc == 0) = false := by simp [hmc]
            clear hmc
            go_wp2_with fail
            go_ret
            have b9 := B9.out
            exact ⟨rfl, b9⟩
    · simp only [Prod.mk.injEq] at h
      obtain ⟨⟨rfl, rfl, rfl⟩, ⟨rfl, rfl⟩, ⟨rfl, rfl⟩, hc3⟩ := h
      rcases hc3 with rfl | rfl
      · skip
        by_cases hsc : sc = 0
        · subst hsc
          obtain ⟨hsum, hk0, hk1⟩ := HSR.out rfl
          have q1 := sq_nn sa
          have q2 := sq_nn sb
          have q3 : sa * sa ≤ 1000000 := by omega
          have q4 : sb * sb ≤ 1000000 := by omega
          have hne : (sa * sa + sb * sb != k) = false := by rw [hsum]; simp
          clear hsum
          by_cases hmc : mc = 0
          · subst hmc
            obtain ⟨hm2, hm3, hq0, hq1, hmod⟩ := HMR.out rfl
            have t1 : 0 ≤ mr * mr ∧ mr * mr ≤ 10000000000 := by have := mulP (a := mr) (b := mr) ⟨hq0, hq1⟩ ⟨hq0, hq1⟩; omega
            have hmz : m ≠ 0 := by omega
            have hmb : (m == 0) = false := by simp [hmz]
            have hme : ((mr * mr + 1) % m != 0) = false := by rw [hmod]; rfl
            clear hmod
            go_wp2_with fail
            go_ret
            have b9 := B9.out
            exact ⟨rfl, b9⟩
          · have hmb : (mc == 0) = false := by simp [hmc]
            clear hmc
            go_wp2_with fail
            go_ret
            have b9 := B9.out
            exact ⟨rfl, b9⟩
        · have hsb : (sc == 0) = false := by simp [hsc]
          clear hsc
          by_cases hmc : mc = 0
          · subst hmc
            obtain ⟨hm2, hm3, hq0, hq1, hmod⟩ := HMR.out rfl
            have t1 : 0 ≤ mr * mr ∧ mr * mr ≤ 10000000000 := by have := mulP (a := mr) (b := mr) ⟨hq0, hq1⟩ ⟨hq0, hq1⟩; omega
            have hmz : m ≠ 0 := by omega
            have hmb : (m == 0) = false := by simp [hmz]
            have hme : ((mr * mr + 1) % m != 0) = false := by rw [hmod]; rfl
            clear hmod
            go_wp2_with fail
            go_ret
            have b9 := B9.out
            exact ⟨rfl, b9⟩
          · have hmb : (mc == 0) = false := by simp [hmc]
            clear hmc
            go_wp2_with fail
            go_ret
            have b9 := B9.out
            exact ⟨rfl, b9⟩
      · skip
        by_cases hsc : sc = 0
        · subst hsc
          obtain ⟨hsum, hk0, hk1⟩ := HSR.out rfl
          have q1 := sq_nn sa
          have q2 := sq_nn sb
          have q3 : sa * sa ≤ 1000000 := by omega
          have q4 : sb * sb ≤ 1000000 := by omega
          have hne : (sa * sa + sb * sb != k) = false := by rw [hsum]; simp
          clear hsum
          by_cases hmc : mc = 0
          · subst hmc
            obtain ⟨hm2, hm3, hq0, hq1, hmod⟩ := HMR.out rfl
            have t1 : 0 ≤ mr * mr ∧ mr * mr ≤ 10000000000 := by have := mulP (a := mr) (b := mr) ⟨hq0, hq1⟩ ⟨hq0, hq1⟩; omega
            have hmz : m ≠ 0 := by omega
            have hmb : (m == 0) = false := by simp [hmz]
            have hme : ((mr * mr + 1) % m != 0) = false := by rw [hmod]; rfl
            clear hmod
            go_wp2_with fail
            go_ret
            have b9 := B9.out
            exact ⟨rfl, b9⟩
          · have hmb : (mc == 0) = false := by simp [hmc]
            clear hmc
            go_wp2_with fail
            go_ret
            have b9 := B9.out
            exact ⟨rfl, b9⟩
        · have hsb : (sc == 0) = false := by simp [hsc]
          clear hsc
          by_cases hmc : mc = 0
          · subst hmc
            obtain ⟨hm2, hm3, hq0, hq1, hmod⟩ := HMR.out rfl
            have t1 : 0 ≤ mr * mr ∧ mr * mr ≤ 10000000000 := by have := mulP (a := mr) (b := mr) ⟨hq0, hq1⟩ ⟨hq0, hq1⟩; omega
            have hmz : m ≠ 0 := by omega
            have hmb : (m == 0) = false := by simp [hmz]
            have hme : ((mr * mr + 1) % m != 0) = false := by rw [hmod]; rfl
            clear hmod
            go_wp2_with fail
            go_ret
            have b9 := B9.out
            exact ⟨rfl, b9⟩
          · have hmb : (mc == 0) = false := by simp [hmc]
            clear hmc
            go_wp2_with fail
            go_ret
            have b9 := B9.out
            exact ⟨rfl, b9⟩
end Go.Proofs.Ytodbmnbahldabaa
