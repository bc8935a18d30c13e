/- SquaresProof: trial division till a prime 3 modulo 4 divides an odd number of times; both packages. -/
import Derived.Test.YtodbmnbahldabaaRoots
namespace Go.Proofs.Ytodbmnbahldabaa
open Go.ChangeShapes Go.WideShapes Go.ChangeAt Go.RowKit
set_option linter.unusedVariables false
set_option maxHeartbeats 1000000

/-- n without its factors p, and whether they were an odd number. -/
def divF (p : Int) : Nat → Int → Bool → Int × Bool
  | 0, n, o => (n, o)
  | k + 1, n, o => if (n % p == 0) = true then divF p k (n / p) (!o) else (n, o)
/-- The divisor that is tried: n itself, where p p is beyond n. -/
def tryP (n p : Int) : Int := if n < p * p then n else p
def spF : Nat → Int → Int → Int × Int
  | 0, _, _ => (0, 3)
  | k + 1, n, p => if 1 < n then (if ((divF (tryP n p) n.toNat n false).2 && (tryP n p % 4 == 3)) = true then (tryP n p, 0) else spF k (divF (tryP n p) n.toNat n false).1 (tryP n p + 1)) else (0, 3)
/-- More than the rounds that are still to come. -/
def spM (n p : Int) : Nat := (n * 1000002 + (1000001 - p)).toNat
def sproof (n : Int) : Int × Int := if inR n 1 1000000 = true then spF (spM n 2) n 2 else (0, 2)

theorem div_ge {n p : Int} (hn : 1 ≤ n) (hp : 2 ≤ p) (hm : (n % p == 0) = true) : 1 ≤ n / p ∧ n / p < n := by
  have h0 : n % p = 0 := by simpa using hm
  have h1 : p * (n / p) + n % p = n := Int.mul_ediv_add_emod n p
  have h2 : n / p < n := Int.ediv_lt_self_of_pos_of_ne_one (by omega) (by omega)
  refine ⟨?_, h2⟩
  rcases Int.lt_or_le (n / p) 1 with h3 | h3
  · have h4 : 0 ≤ n / p := Int.ediv_nonneg (by omega) (by omega)
    have h5 : n / p = 0 := by omega
    rw [h5] at h1
    omega
  · exact h3
theorem divF_out (p n : Int) (o : Bool) (k : Nat) (h : (n % p == 0) = false) : divF p k n o = (n, o) := by cases k <;> simp [divF, h]
theorem divF_next {p n : Int} {o : Bool} {k : Nat} (h : (n % p == 0) = true) (hk : n.toNat ≤ k) (hn : 1 ≤ n) (hp : 2 ≤ p) : ∃ k', (n / p).toNat ≤ k' ∧ divF p k n o = divF p k' (n / p) (!o) := by
  have := div_ge hn hp h
  refine ⟨k - 1, by omega, ?_⟩
  rw [show k = k - 1 + 1 from by omega]
  simp [divF, h]
/-- Fuel beyond need changes nothing; what is left is at least 1, divides n, and p divides it no more. -/
theorem divF_spec (p : Int) (hp : 2 ≤ p) : ∀ (k : Nat) (n : Int) (o : Bool), 1 ≤ n → n.toNat ≤ k →
    1 ≤ (divF p k n o).1 ∧ (divF p k n o).1 ∣ n ∧ ((divF p k n o).1 % p == 0) = false ∧ ((n % p == 0) = true → (divF p k n o).1 < n) ∧ ((n % p == 0) = false → divF p k n o = (n, o)) := by
  intro k
  induction k with
  | zero => intro n o hn hk; omega
  | succ k ih =>
    intro n o hn hk
    cases h : (n % p == 0)
    · rw [divF_out p n o _ h]
      exact ⟨hn, Int.dvd_refl _, h, by simp, fun _ => rfl⟩
    · obtain ⟨h1, h2⟩ := div_ge hn hp h
      obtain ⟨a1, a2, a3, a4, a5⟩ := ih (n / p) (!o) h1 (by omega)
      have e : divF p (k + 1) n o = divF p k (n / p) (!o) := by simp [divF, h]
      rw [e]
      have h0 : n % p = 0 := by simpa using h
      have hd : n / p ∣ n := ⟨p, by have := Int.mul_ediv_add_emod n p; rw [Int.mul_comm]; omega⟩
      refine ⟨a1, Int.dvd_trans a2 hd, a3, fun _ => ?_, fun hh => by simp at hh⟩
      have := Int.le_of_dvd (by omega) a2
      omega
theorem tryP_two {n p : Int} (hn : 1 < n) (hp : 2 ≤ p) : 2 ≤ tryP n p := by unfold tryP; split <;> omega
theorem tryP_le {n p : Int} (hn : 1 < n) (hp : 2 ≤ p) (hN : n ≤ 1000000) : tryP n p ≤ n := by
  unfold tryP; split
  · omega
  · rename_i h
    have : p * 1 ≤ p * p := Int.mul_le_mul_of_nonneg_left (by omega) (by omega)
    omega
theorem spF_out (n p : Int) (k : Nat) (h : ¬ 1 < n) : spF k n p = (0, 3) := by cases k <;> simp [spF, h]
/-- One round lowers the number of rounds to come. -/
theorem spM_less {n p m : Int} (hn : 1 < n) (hN : n ≤ 1000000) (hp : 2 ≤ p) (hm : 1 ≤ m ∧ m ≤ n) (hp' : 2 ≤ tryP n p ∧ tryP n p ≤ n) (hd : (n % tryP n p == 0) = true → m < n) (hpp : p ≤ 1000001) : spM m (tryP n p + 1) < spM n p := by
  unfold spM
  by_cases ht : n < p * p
  · have e : tryP n p = n := by simp [tryP, ht]
    have := hd (by rw [e]; simp)
    omega
  · have e : tryP n p = p := by simp [tryP, ht]
    rw [e] at hp' ⊢
    omega
theorem spM_pos {n p : Int} (hn : 1 < n) (hpp : p ≤ 1000001) : 0 < spM n p := by unfold spM; omega
/-- No number from 2 to below p divides m. -/
def NoDiv (m p : Int) : Prop := ∀ d : Int, 2 ≤ d → d < p → ¬ d ∣ m
theorem noDiv_two (n : Int) : NoDiv n 2 := fun d h1 h2 => by omega
theorem noDiv_le {m p : Int} (h : NoDiv m p) (hm : 1 < m) : p ≤ m := by
  rcases Int.lt_or_le m p with h1 | h1
  · exact absurd (Int.dvd_refl m) (h m (by omega) h1)
  · exact h1
theorem noDiv_next {q P : Int} (h : NoDiv q P) (hm : (q % P == 0) = false) : NoDiv q (P + 1) := by
  intro d h1 h2 h3
  rcases Int.lt_or_le d P with h4 | h4
  · exact h d h1 h4 h3
  · have : d = P := by omega
    subst this
    have := Int.emod_eq_zero_of_dvd h3
    simp [this] at hm
/-- A number without divisors below p, p p beyond it, has none below itself. -/
theorem noDiv_self {m p : Int} (h : NoDiv m p) (hp : 2 ≤ p) (hm : 1 < m) (hpp : m < p * p) : NoDiv m m := by
  intro d h1 h2 ⟨c, hc⟩
  rcases Int.lt_or_le d p with h4 | h4
  · exact h d h1 h4 ⟨c, hc⟩
  · have hc2 : 2 ≤ c := by
      rcases Int.lt_or_le c 2 with h5 | h5
      · have h6 : c ≤ 1 := by omega
        have : d * c ≤ d * 1 := Int.mul_le_mul_of_nonneg_left h6 (by omega)
        omega
      · exact h5
    rcases Int.lt_or_le c p with h7 | h7
    · exact h c hc2 h7 ⟨d, by rw [Int.mul_comm]; exact hc⟩
    · have : p * p ≤ d * c := Int.mul_le_mul h4 h7 (by omega) (by omega)
      omega
theorem noDiv_dvd {m q p : Int} (h : NoDiv m p) (hq : q ∣ m) : NoDiv q p := fun d h1 h2 h3 => h d h1 h2 (Int.dvd_trans h3 hq)
theorem squaresProof_any (n : Int) (w : World) :
    Calls Try.prog 16 #[.int .i64 n] w fun e w' => e = .returned (.tuple #[.int .i64 (sproof n).1, .int .i64 (sproof n).2]) ∧ w = w' := by
  cases hr : inR n 1 1000000
  · go_enter Try.func16, Try.ntmps16
    go_wp2_with (go_at_call 41; refine (within_any _ _ _ _).mono ?_; rintro e w1 ⟨rfl, rfl⟩)
    go_ret2
    exact ⟨by simp [sproof, hr], rfl⟩
  · obtain ⟨h1, h2⟩ := inR_iff.1 hr
    obtain ⟨R, hR⟩ : ∃ R, spF (spM n 2) n 2 = R := ⟨_, rfl⟩
    have HR : Hid (sproof n = R) := Lib.hid (by rw [← hR, sproof, if_pos hr])
    go_enter Try.func16, Try.ntmps16
    go_wp2_with (go_at_call 41; refine (within_any _ _ _ _).mono ?_; rintro e w1 ⟨rfl, rfl⟩)
    go_loop [0, 4, 5] (fun a b o => ∃ m p : Int, a = .int .i64 m ∧ b = .int .i64 p ∧ 1 ≤ m ∧ m ≤ 1000000 ∧ 2 ≤ p ∧ p ≤ 1000001 ∧ Hid (∃ k : Nat, spM m p ≤ k ∧ spF k m p = R)) (fun a b o => spM (intOf a) (intOf b))
    case atStart => exact ⟨n, 2, rfl, rfl, by omega, by omega, by omega, by omega, Lib.hid ⟨_, Nat.le_refl _, hR⟩⟩
    case round =>
      clear hR hr h1 h2
      obtain ⟨m, p, rfl, rfl, hm1, hm2, hp1, hp2, HK⟩ := hrel
      obtain ⟨k, hk, hK⟩ := HK.out
      clear HK
      obtain ⟨pp1, pp2⟩ := mulP ⟨by omega, hp2⟩ ⟨by omega, hp2⟩ (a := p) (b := p)
      have pp3 : p * p ≤ 2000000000000 := by omega
      clear pp2
      by_cases hlt : 1 < m
      · have hP2 := tryP_two hlt hp1
        have hPl := tryP_le hlt hp1 hm2
        have hM := spM_pos hlt hp2
        obtain ⟨j, rfl⟩ : ∃ j, k = j + 1 := ⟨k - 1, by omega⟩
        by_cases ht : m < p * p
        · have eP : tryP m p = m := by unfold tryP; rw [if_pos ht]
          rw [eP] at hP2 hPl
          obtain ⟨D, hD⟩ : ∃ D, divF m m.toNat m false = D := ⟨_, rfl⟩
          obtain ⟨d1, d2, d3, d4, d5⟩ := divF_spec m hP2 m.toNat m false (by omega) (Nat.le_refl _)
          rw [hD] at d1 d2 d3 d4 d5
          have dle : D.1 ≤ m := Int.le_of_dvd (by omega) d2
          have hless := spM_less hlt hm2 hp1 ⟨d1, dle⟩ (by rw [eP]; exact ⟨hP2, hPl⟩) (by rw [eP]; exact d4) hp2
          rw [eP] at hless
          have HS : Hid (spF (j + 1) m p = if (D.2 && (m % 4 == 3)) = true then (m, 0) else spF j D.1 (m + 1)) := Lib.hid (by simp only [spF, if_pos hlt, eP, hD])
          have HD := Lib.hid hD
          have HKK := Lib.hid hK
          clear hD hK d2 d4 d5 eP hM
          go_wp2
          go_loop [0, 5] (fun a o => ∃ (q : Int) (b : Bool), a = .int .i64 q ∧ o = .bool b ∧ 1 ≤ q ∧ q ≤ m ∧ Hid (∃ k : Nat, q.toNat ≤ k ∧ divF m k q b = D)) (fun a o => (intOf a).toNat)
          case atStart => exact ⟨m, false, rfl, rfl, by omega, by omega, Lib.hid ⟨_, Nat.le_refl _, HD.out⟩⟩
          case round =>
            obtain ⟨q, b, rfl, rfl, hq1, hq2, HQ⟩ := hrel
            obtain ⟨kk, hkk, hQ⟩ := HQ.out
            clear HQ
            cases hm : (q % m == 0)
            · have HE := Lib.hid ((divF_out _ _ _ _ hm).symm.trans hQ)
              clear hQ
              cases b
              · have HF : Hid (spF j q (m + 1) = R) := Lib.hid (by have h := HS.out.symm.trans HKK.out; rw [← HE.out] at h; simpa using h)
                have HL : spM q (m + 1) ≤ j := by rw [← HE.out] at hless; simp only at hless; omega
                have HM := hless
                rw [← HE.out] at HM
                simp only at HM
                clear hless
                go_wp2
                go_round
                case rel => exact ⟨q, m + 1, rfl, rfl, by omega, by omega, by omega, by omega, Lib.hid ⟨j, HL, HF.out⟩⟩
                case measure => simpa [intOf] using HM
              · cases h4 : (m % 4 == 3)
                · have HF : Hid (spF j q (m + 1) = R) := Lib.hid (by have h := HS.out.symm.trans HKK.out; rw [← HE.out, h4] at h; simpa using h)
                  have HL : spM q (m + 1) ≤ j := by rw [← HE.out] at hless; simp only at hless; omega
                  have HM := hless
                  rw [← HE.out] at HM
                  simp only at HM
                  clear hless
                  go_wp2
                  go_round
                  case rel => exact ⟨q, m + 1, rfl, rfl, by omega, by omega, by omega, by omega, Lib.hid ⟨j, HL, HF.out⟩⟩
                  case measure => simpa [intOf] using HM
                · have HF : Hid ((m, 0) = R) := Lib.hid (by have h := HS.out.symm.trans HKK.out; rw [← HE.out, h4] at h; simpa using h)
                  clear hless
                  go_wp2
                  go_ret2
                  exact ⟨by rw [HR.out, ← HF.out]; simp, rfl⟩
            · obtain ⟨g1, g2⟩ := div_ge hq1 hP2 hm
              obtain ⟨k2, hk2, hK2⟩ := divF_next hm hkk hq1 hP2
              have HK2 := Lib.hid (hK2.symm.trans hQ)
              clear hQ hK2
              go_wp2
              go_round
              case rel => exact ⟨q / m, !b, rfl, by simp, g1, by omega, Lib.hid ⟨k2, hk2, HK2.out⟩⟩
              case measure => simp [intOf]; omega
        · have eP : tryP m p = p := by unfold tryP; rw [if_neg ht]
          rw [eP] at hP2 hPl
          obtain ⟨D, hD⟩ : ∃ D, divF p m.toNat m false = D := ⟨_, rfl⟩
          obtain ⟨d1, d2, d3, d4, d5⟩ := divF_spec p hP2 m.toNat m false (by omega) (Nat.le_refl _)
          rw [hD] at d1 d2 d3 d4 d5
          have dle : D.1 ≤ m := Int.le_of_dvd (by omega) d2
          have hless := spM_less hlt hm2 hp1 ⟨d1, dle⟩ (by rw [eP]; exact ⟨hP2, hPl⟩) (by rw [eP]; exact d4) hp2
          rw [eP] at hless
          have HS : Hid (spF (j + 1) m p = if (D.2 && (p % 4 == 3)) = true then (p, 0) else spF j D.1 (p + 1)) := Lib.hid (by simp only [spF, if_pos hlt, eP, hD])
          have HD := Lib.hid hD
          have HKK := Lib.hid hK
          clear hD hK d2 d4 d5 eP hM
          go_wp2
          go_loop [0, 5] (fun a o => ∃ (q : Int) (b : Bool), a = .int .i64 q ∧ o = .bool b ∧ 1 ≤ q ∧ q ≤ m ∧ Hid (∃ k : Nat, q.toNat ≤ k ∧ divF p k q b = D)) (fun a o => (intOf a).toNat)
          case atStart => exact ⟨m, false, rfl, rfl, by omega, by omega, Lib.hid ⟨_, Nat.le_refl _, HD.out⟩⟩
          case round =>
            obtain ⟨q, b, rfl, rfl, hq1, hq2, HQ⟩ := hrel
            obtain ⟨kk, hkk, hQ⟩ := HQ.out
            clear HQ
            cases hm : (q % p == 0)
            · have HE := Lib.hid ((divF_out _ _ _ _ hm).symm.trans hQ)
              clear hQ
              cases b
              · have HF : Hid (spF j q (p + 1) = R) := Lib.hid (by have h := HS.out.symm.trans HKK.out; rw [← HE.out] at h; simpa using h)
                have HL : spM q (p + 1) ≤ j := by rw [← HE.out] at hless; simp only at hless; omega
                have HM := hless
                rw [← HE.out] at HM
                simp only at HM
                clear hless
                go_wp2
                go_round
                case rel => exact ⟨q, p + 1, rfl, rfl, by omega, by omega, by omega, by omega, Lib.hid ⟨j, HL, HF.out⟩⟩
                case measure => simpa [intOf] using HM
              · cases h4 : (p % 4 == 3)
                · have HF : Hid (spF j q (p + 1) = R) := Lib.hid (by have h := HS.out.symm.trans HKK.out; rw [← HE.out, h4] at h; simpa using h)
                  have HL : spM q (p + 1) ≤ j := by rw [← HE.out] at hless; simp only at hless; omega
                  have HM := hless
                  rw [← HE.out] at HM
                  simp only at HM
                  clear hless
                  go_wp2
                  go_round
                  case rel => exact ⟨q, p + 1, rfl, rfl, by omega, by omega, by omega, by omega, Lib.hid ⟨j, HL, HF.out⟩⟩
                  case measure => simpa [intOf] using HM
                · have HF : Hid ((p, 0) = R) := Lib.hid (by have h := HS.out.symm.trans HKK.out; rw [← HE.out, h4] at h; simpa using h)
                  clear hless
                  go_wp2
                  go_ret2
                  exact ⟨by rw [HR.out, ← HF.out]; simp, rfl⟩
            · obtain ⟨g1, g2⟩ := div_ge hq1 hP2 hm
              obtain ⟨k2, hk2, hK2⟩ := divF_next hm hkk hq1 hP2
              have HK2 := Lib.hid (hK2.symm.trans hQ)
              clear hQ hK2
              go_wp2
              go_round
              case rel => exact ⟨q / p, !b, rfl, by simp, g1, by omega, Lib.hid ⟨k2, hk2, HK2.out⟩⟩
              case measure => simp [intOf]; omega
      · have HE := Lib.hid ((spF_out m p k hlt).symm.trans hK)
        clear hK hk
        go_wp2
        go_ret2
        exact ⟨by rw [HR.out, ← HE.out]; simp, rfl⟩
theorem sSquaresProof_any (n : Int) (w : World) :
    Calls Try.prog 17 #[.int .i64 n] w fun e w' => e = .returned (.tuple #[.int .i64 (sproof n).1, .int .i64 (sproof n).2]) ∧ w = w' := by
  cases hr : inR n 1 1000000
  · go_enter Try.func17, Try.ntmps17
    go_wp2_with (go_at_call 46; refine (in_any _ _ _ _).mono ?_; rintro e w1 ⟨rfl, rfl⟩)
    go_ret2
    exact ⟨by simp [sproof, hr], rfl⟩
  · obtain ⟨h1, h2⟩ := inR_iff.1 hr
    obtain ⟨R, hR⟩ : ∃ R, spF (spM n 2) n 2 = R := ⟨_, rfl⟩
    have HR : Hid (sproof n = R) := Lib.hid (by rw [← hR, sproof, if_pos hr])
    go_enter Try.func17, Try.ntmps17
    go_wp2_with (go_at_call 46; refine (in_any _ _ _ _).mono ?_; rintro e w1 ⟨rfl, rfl⟩)
    go_loop [4, 5, 6] (fun a b o => ∃ m p : Int, a = .int .i64 m ∧ b = .int .i64 p ∧ 1 ≤ m ∧ m ≤ 1000000 ∧ 2 ≤ p ∧ p ≤ 1000001 ∧ Hid (NoDiv m p) ∧ Hid (∃ k : Nat, spM m p ≤ k ∧ spF k m p = R)) (fun a b o => spM (intOf a) (intOf b))
    case atStart => exact ⟨n, 2, rfl, rfl, by omega, by omega, by omega, by omega, Lib.hid (noDiv_two n), Lib.hid ⟨_, Nat.le_refl _, hR⟩⟩
    case round =>
      clear hR hr h1 h2
      obtain ⟨m, p, rfl, rfl, hm1, hm2, hp1, hp2, HN, HK⟩ := hrel
      obtain ⟨k, hk, hK⟩ := HK.out
      clear HK
      obtain ⟨pp1, pp2⟩ := mulP ⟨by omega, hp2⟩ ⟨by omega, hp2⟩ (a := p) (b := p)
      have pp3 : p * p ≤ 2000000000000 := by omega
      clear pp2
      by_cases hlt : 1 < m
      · have hP2 := tryP_two hlt hp1
        have hPl := tryP_le hlt hp1 hm2
        have hM := spM_pos hlt hp2
        have hple : p ≤ m := noDiv_le HN.out hlt
        obtain ⟨j, rfl⟩ : ∃ j, k = j + 1 := ⟨k - 1, by omega⟩
        by_cases ht : m < p * p
        · have eP : tryP m p = m := by unfold tryP; rw [if_pos ht]
          rw [eP] at hP2 hPl
          obtain ⟨D, hD⟩ : ∃ D, divF m m.toNat m false = D := ⟨_, rfl⟩
          obtain ⟨d1, d2, d3, d4, d5⟩ := divF_spec m hP2 m.toNat m false (by omega) (Nat.le_refl _)
          rw [hD] at d1 d2 d3 d4 d5
          have dle : D.1 ≤ m := Int.le_of_dvd (by omega) d2
          have hless := spM_less hlt hm2 hp1 ⟨d1, dle⟩ (by rw [eP]; exact ⟨hP2, hPl⟩) (by rw [eP]; exact d4) hp2
          rw [eP] at hless
          have HS : Hid (spF (j + 1) m p = if (D.2 && (m % 4 == 3)) = true then (m, 0) else spF j D.1 (m + 1)) := Lib.hid (by simp only [spF, if_pos hlt, eP, hD])
          have HNN : Hid (NoDiv D.1 m) := Lib.hid (noDiv_dvd (noDiv_self HN.out hp1 hlt ht) d2)
          have HD := Lib.hid hD
          have HKK := Lib.hid hK
          clear hD hK d2 d4 d5 eP hM
          go_wp2
          go_loop [4, 6] (fun a o => ∃ (q : Int) (b : Bool), a = .int .i64 q ∧ o = .bool b ∧ 1 ≤ q ∧ q ≤ m ∧ Hid (∃ k : Nat, q.toNat ≤ k ∧ divF m k q b = D)) (fun a o => (intOf a).toNat)
          case atStart => exact ⟨m, false, rfl, rfl, by omega, by omega, Lib.hid ⟨_, Nat.le_refl _, HD.out⟩⟩
          case round =>
            obtain ⟨q, b, rfl, rfl, hq1, hq2, HQ⟩ := hrel
            obtain ⟨kk, hkk, hQ⟩ := HQ.out
            clear HQ
            cases hm : (q % m == 0)
            · have HE := Lib.hid ((divF_out _ _ _ _ hm).symm.trans hQ)
              clear hQ
              cases b
              · have HF : Hid (spF j q (m + 1) = R) := Lib.hid (by have h := HS.out.symm.trans HKK.out; rw [← HE.out] at h; simpa using h)
                have HL : spM q (m + 1) ≤ j := by rw [← HE.out] at hless; simp only at hless; omega
                have HM := hless
                rw [← HE.out] at HM
                simp only at HM
                clear hless
                go_wp2
                go_round
                case rel => exact ⟨q, m + 1, rfl, rfl, by omega, by omega, by omega, by omega, Lib.hid (by have h := HNN.out; rw [← HE.out] at h; exact noDiv_next h hm), Lib.hid ⟨j, HL, HF.out⟩⟩
                case measure => simpa [intOf] using HM
              · cases h4 : (m % 4 == 3)
                · have HF : Hid (spF j q (m + 1) = R) := Lib.hid (by have h := HS.out.symm.trans HKK.out; rw [← HE.out, h4] at h; simpa using h)
                  have HL : spM q (m + 1) ≤ j := by rw [← HE.out] at hless; simp only at hless; omega
                  have HM := hless
                  rw [← HE.out] at HM
                  simp only at HM
                  clear hless
                  go_wp2
                  go_round
                  case rel => exact ⟨q, m + 1, rfl, rfl, by omega, by omega, by omega, by omega, Lib.hid (by have h := HNN.out; rw [← HE.out] at h; exact noDiv_next h hm), Lib.hid ⟨j, HL, HF.out⟩⟩
                  case measure => simpa [intOf] using HM
                · have HF : Hid ((m, 0) = R) := Lib.hid (by have h := HS.out.symm.trans HKK.out; rw [← HE.out, h4] at h; simpa using h)
                  clear hless
                  go_wp2
                  go_ret2
                  exact ⟨by rw [HR.out, ← HF.out]; simp, rfl⟩
            · obtain ⟨g1, g2⟩ := div_ge hq1 hP2 hm
              obtain ⟨k2, hk2, hK2⟩ := divF_next hm hkk hq1 hP2
              have HK2 := Lib.hid (hK2.symm.trans hQ)
              clear hQ hK2
              go_wp2
              go_round
              case rel => exact ⟨q / m, !b, rfl, by simp, g1, by omega, Lib.hid ⟨k2, hk2, HK2.out⟩⟩
              case measure => simp [intOf]; omega
        · have eP : tryP m p = p := by unfold tryP; rw [if_neg ht]
          rw [eP] at hP2 hPl
          obtain ⟨D, hD⟩ : ∃ D, divF p m.toNat m false = D := ⟨_, rfl⟩
          obtain ⟨d1, d2, d3, d4, d5⟩ := divF_spec p hP2 m.toNat m false (by omega) (Nat.le_refl _)
          rw [hD] at d1 d2 d3 d4 d5
          have dle : D.1 ≤ m := Int.le_of_dvd (by omega) d2
          have hless := spM_less hlt hm2 hp1 ⟨d1, dle⟩ (by rw [eP]; exact ⟨hP2, hPl⟩) (by rw [eP]; exact d4) hp2
          rw [eP] at hless
          have HS : Hid (spF (j + 1) m p = if (D.2 && (p % 4 == 3)) = true then (p, 0) else spF j D.1 (p + 1)) := Lib.hid (by simp only [spF, if_pos hlt, eP, hD])
          have HNN : Hid (NoDiv D.1 p) := Lib.hid (noDiv_dvd HN.out d2)
          have HD := Lib.hid hD
          have HKK := Lib.hid hK
          clear hD hK d2 d4 d5 eP hM
          go_wp2
          go_loop [4, 6] (fun a o => ∃ (q : Int) (b : Bool), a = .int .i64 q ∧ o = .bool b ∧ 1 ≤ q ∧ q ≤ m ∧ Hid (∃ k : Nat, q.toNat ≤ k ∧ divF p k q b = D)) (fun a o => (intOf a).toNat)
          case atStart => exact ⟨m, false, rfl, rfl, by omega, by omega, Lib.hid ⟨_, Nat.le_refl _, HD.out⟩⟩
          case round =>
            obtain ⟨q, b, rfl, rfl, hq1, hq2, HQ⟩ := hrel
            obtain ⟨kk, hkk, hQ⟩ := HQ.out
            clear HQ
            cases hm : (q % p == 0)
            · have HE := Lib.hid ((divF_out _ _ _ _ hm).symm.trans hQ)
              clear hQ
              cases b
              · have HF : Hid (spF j q (p + 1) = R) := Lib.hid (by have h := HS.out.symm.trans HKK.out; rw [← HE.out] at h; simpa using h)
                have HL : spM q (p + 1) ≤ j := by rw [← HE.out] at hless; simp only at hless; omega
                have HM := hless
                rw [← HE.out] at HM
                simp only at HM
                clear hless
                go_wp2
                go_round
                case rel => exact ⟨q, p + 1, rfl, rfl, by omega, by omega, by omega, by omega, Lib.hid (by have h := HNN.out; rw [← HE.out] at h; exact noDiv_next h hm), Lib.hid ⟨j, HL, HF.out⟩⟩
                case measure => simpa [intOf] using HM
              · cases h4 : (p % 4 == 3)
                · have HF : Hid (spF j q (p + 1) = R) := Lib.hid (by have h := HS.out.symm.trans HKK.out; rw [← HE.out, h4] at h; simpa using h)
                  have HL : spM q (p + 1) ≤ j := by rw [← HE.out] at hless; simp only at hless; omega
                  have HM := hless
                  rw [← HE.out] at HM
                  simp only at HM
                  clear hless
                  go_wp2
                  go_round
                  case rel => exact ⟨q, p + 1, rfl, rfl, by omega, by omega, by omega, by omega, Lib.hid (by have h := HNN.out; rw [← HE.out] at h; exact noDiv_next h hm), Lib.hid ⟨j, HL, HF.out⟩⟩
                  case measure => simpa [intOf] using HM
                · have HF : Hid ((p, 0) = R) := Lib.hid (by have h := HS.out.symm.trans HKK.out; rw [← HE.out, h4] at h; simpa using h)
                  clear hless
                  go_wp2
                  go_ret2
                  exact ⟨by rw [HR.out, ← HF.out]; simp, rfl⟩
            · obtain ⟨g1, g2⟩ := div_ge hq1 hP2 hm
              obtain ⟨k2, hk2, hK2⟩ := divF_next hm hkk hq1 hP2
              have HK2 := Lib.hid (hK2.symm.trans hQ)
              clear hQ hK2
              go_wp2
              go_round
              case rel => exact ⟨q / p, !b, rfl, by simp, g1, by omega, Lib.hid ⟨k2, hk2, HK2.out⟩⟩
              case measure => simp [intOf]; omega
      · have HE := Lib.hid ((spF_out m p k hlt).symm.trans hK)
        clear hK hk
        go_wp2
        go_ret2
        exact ⟨by rw [HR.out, ← HE.out]; simp, rfl⟩
end Go.Proofs.Ytodbmnbahldabaa
