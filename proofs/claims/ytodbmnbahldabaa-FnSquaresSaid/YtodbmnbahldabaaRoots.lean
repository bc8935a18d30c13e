/- The loops over numbers: roots of -1, squares from such a root, the proof that a number is no sum of squares. -/
import Derived.Test.YtodbmnbahldabaaBase
import Derived.LoopTactic
import Derived.Deep.QuietTactic
import Derived.BigQuiet
namespace Go.Proofs.Ytodbmnbahldabaa
open Go.ChangeShapes Go.WideShapes Go.ChangeAt Go.RowKit
set_option linter.unusedVariables false
set_option maxHeartbeats 1000000

theorem mulP {a b A B : Int} (ha : 0 ≤ a ∧ a ≤ A) (hb : 0 ≤ b ∧ b ≤ B) : 0 ≤ a * b ∧ a * b ≤ A * B :=
  ⟨Int.mul_nonneg ha.1 hb.1, Int.mul_le_mul ha.2 hb.2 hb.1 (by omega)⟩

/-- The least x from x on, below n, with n dividing x x + 1. -/
def mrF (n : Int) : Nat → Int → Int × Int
  | 0, _ => (0, 3)
  | k + 1, x => if x < n then (if ((x * x + 1) % n == 0) = true then (x, 0) else mrF n k (x + 1)) else (0, 3)
def mroot (n : Int) : Int × Int := if inR n 2 100000 = true then mrF n (n - 1).toNat 1 else (0, 2)
theorem mrF_out (n x : Int) (k : Nat) (h : ¬ x < n) : mrF n k x = (0, 3) := by cases k <;> simp [mrF, h]
theorem mrF_hit (n x : Int) (h : x < n) (hm : ((x * x + 1) % n == 0) = true) : mrF n (n - x).toNat x = (x, 0) := by
  rw [show (n - x).toNat = (n - x - 1).toNat + 1 from by omega]
  simp [mrF, h, hm]
theorem mrF_next (n x : Int) (h : x < n) (hm : ((x * x + 1) % n == 0) = false) : mrF n (n - x).toNat x = mrF n (n - (x + 1)).toNat (x + 1) := by
  rw [show (n - x).toNat = (n - (x + 1)).toNat + 1 from by omega]
  simp [mrF, h, hm]
theorem minusRoot_any (n : Int) (w : World) :
    Calls Try.prog 19 #[.int .i64 n] w fun e w' => e = .returned (.tuple #[.int .i64 (mroot n).1, .int .i64 (mroot n).2]) ∧ w = w' := by
  cases hr : inR n 2 100000
  · go_enter Try.func19, Try.ntmps19
    go_wp2_with (go_at_call 41; refine (within_any _ _ _ _).mono ?_; rintro e w1 ⟨rfl, rfl⟩)
    go_ret2
    exact ⟨by simp [mroot, hr], rfl⟩
  · obtain ⟨h1, h2⟩ := inR_iff.1 hr
    obtain ⟨R, hR⟩ : ∃ R, mrF n (n - 1).toNat 1 = R := ⟨_, rfl⟩
    have HR : Hid (mroot n = R) := Lib.hid (by rw [← hR, mroot, if_pos hr])
    go_enter Try.func19, Try.ntmps19
    go_wp2_with (go_at_call 41; refine (within_any _ _ _ _).mono ?_; rintro e w1 ⟨rfl, rfl⟩)
    go_loop [4] (fun i => ∃ x : Int, i = .int .i64 x ∧ 1 ≤ x ∧ x ≤ n ∧ Hid (mrF n (n - x).toNat x = R)) (fun i => (n - intOf i).toNat)
    case atStart => exact ⟨1, rfl, by omega, by omega, Lib.hid hR⟩
    case round =>
      clear hR
      obtain ⟨x, rfl, hx1, hx2, HX⟩ := hrel
      have hxx := mulP ⟨by omega, hx2⟩ ⟨by omega, hx2⟩ (a := x) (b := x)
      have hnn := mulP ⟨by omega, h2⟩ ⟨by omega, h2⟩ (a := n) (b := n)
      obtain ⟨q1, q2⟩ := hxx
      have q3 : x * x ≤ 10000000000 := by omega
      clear q2 hnn
      by_cases hlt : x < n
      · cases hm : ((x * x + 1) % n == 0)
        · go_wp2
          go_round
          case rel => exact ⟨x + 1, rfl, by omega, by omega, Lib.hid ((mrF_next n x hlt hm).symm.trans HX.out)⟩
          case measure => simp [intOf]; omega
        · go_wp2
          go_ret2
          have e := (mrF_hit n x hlt hm).symm.trans HX.out
          exact ⟨by rw [HR.out, ← e]; simp, rfl⟩
      · go_wp2
        go_ret2
        have e := (mrF_out n x _ (by omega)).symm.trans HX.out
        exact ⟨by rw [HR.out, ← e]; simp, rfl⟩
theorem sMinusRoot_any (n : Int) (w : World) :
    Calls Try.prog 20 #[.int .i64 n] w fun e w' => e = .returned (.tuple #[.int .i64 (mroot n).1, .int .i64 (mroot n).2]) ∧ w = w' := by
  cases hr : inR n 2 100000
  · go_enter Try.func20, Try.ntmps20
    go_wp2_with (go_at_call 46; refine (in_any _ _ _ _).mono ?_; rintro e w1 ⟨rfl, rfl⟩)
    go_ret2
    exact ⟨by simp [mroot, hr], rfl⟩
  · obtain ⟨h1, h2⟩ := inR_iff.1 hr
    obtain ⟨R, hR⟩ : ∃ R, mrF n (n - 1).toNat 1 = R := ⟨_, rfl⟩
    have HR : Hid (mroot n = R) := Lib.hid (by rw [← hR, mroot, if_pos hr])
    go_enter Try.func20, Try.ntmps20
    go_wp2_with (go_at_call 46; refine (in_any _ _ _ _).mono ?_; rintro e w1 ⟨rfl, rfl⟩)
    go_loop [4] (fun i => ∃ x : Int, i = .int .i64 x ∧ 1 ≤ x ∧ x ≤ n ∧ Hid (mrF n (n - x).toNat x = R)) (fun i => (n - intOf i).toNat)
    case atStart => exact ⟨1, rfl, by omega, by omega, Lib.hid hR⟩
    case round =>
      clear hR
      obtain ⟨x, rfl, hx1, hx2, HX⟩ := hrel
      have hxx := mulP ⟨by omega, hx2⟩ ⟨by omega, hx2⟩ (a := x) (b := x)
      have hnn := mulP ⟨by omega, h2⟩ ⟨by omega, h2⟩ (a := n) (b := n)
      obtain ⟨q1, q2⟩ := hxx
      have q3 : x * x ≤ 10000000000 := by omega
      clear q2 hnn
      by_cases hlt : x < n
      · cases hm : ((x * x + 1) % n == 0)
        · go_wp2
          go_round
          case rel => exact ⟨x + 1, rfl, by omega, by omega, Lib.hid ((mrF_next n x hlt hm).symm.trans HX.out)⟩
          case measure => simp [intOf]; omega
        · go_wp2
          go_ret2
          have e := (mrF_hit n x hlt hm).symm.trans HX.out
          exact ⟨by rw [HR.out, ← e]; simp, rfl⟩
      · go_wp2
        go_ret2
        have e := (mrF_out n x _ (by omega)).symm.trans HX.out
        exact ⟨by rw [HR.out, ← e]; simp, rfl⟩

/-- Euclid's steps from (a, b) till a a is at most n. -/
def sfF (n : Int) : Nat → Int → Int → Int × Int
  | 0, a, b => (a, b)
  | k + 1, a, b => if n < a * a then sfF n k b (a % b) else (a, b)
def sroot (n r : Int) : Int × Int × Int :=
  if inR n 3 1000000 = true ∧ inR r 1 (n - 1) = true then (if ((r * r + 1) % n == 0) = true then ((sfF n n.toNat n r).1, (sfF n n.toNat n r).2, 0) else (0, 0, 6)) else (0, 0, 2)
/-- No number but 1 and -1 divides both. -/
def Cop (a b : Int) : Prop := ∀ d : Int, d ∣ a → d ∣ b → d ∣ 1
theorem cop_step {a b : Int} (h : Cop a b) : Cop b (a % b) := by
  intro d h1 h2
  refine h d ?_ h1
  have e : a = b * (a / b) + a % b := (Int.mul_ediv_add_emod a b).symm
  rw [e]
  exact Int.dvd_add (Int.dvd_trans h1 (Int.dvd_mul_right _ _)) h2
theorem cop_zero {a : Int} (h : Cop a 0) (ha : 0 ≤ a) : a = 1 := by
  have h1 := h a (Int.dvd_refl a) (Int.dvd_zero a)
  have h2 := Int.le_of_dvd (by omega) h1
  rcases Int.lt_or_le a 1 with h0 | h0
  · have : a = 0 := by omega
    subst this
    have := Int.zero_dvd.1 h1
    omega
  · omega
theorem cop_root {n r : Int} (h : (r * r + 1) % n = 0) : Cop n r := by
  intro d h1 h2
  have h3 : d ∣ r * r + 1 := Int.dvd_trans h1 (Int.dvd_of_emod_eq_zero h)
  have h4 : d ∣ r * r := Int.dvd_trans h2 (Int.dvd_mul_right _ _)
  have := Int.dvd_sub h3 h4
  rwa [show r * r + 1 - r * r = 1 from by omega] at this
theorem sfF_out (n a b : Int) (k : Nat) (h : ¬ n < a * a) : sfF n k a b = (a, b) := by cases k <;> simp [sfF, h]
theorem sfF_next {n a b : Int} {k : Nat} (h : n < a * a) (hk : a.toNat ≤ k) (hb : 0 ≤ b ∧ b < a) : ∃ k', b.toNat ≤ k' ∧ sfF n k a b = sfF n k' b (a % b) := by
  refine ⟨k - 1, by omega, ?_⟩
  rw [show k = k - 1 + 1 from by omega]
  simp [sfF, h]
theorem sf_pos {n a b : Int} (hn : 3 ≤ n) (h : n < a * a) (hc : Cop a b) (hb : 0 ≤ b ∧ b < a) : 1 ≤ b := by
  rcases Int.lt_or_le b 1 with h0 | h0
  · have : b = 0 := by omega
    subst this
    have := cop_zero hc (by omega)
    subst this
    omega
  · exact h0
theorem squaresFromRoot_any (n r : Int) (w : World) (b0 : -9223372036854775808 ≤ n ∧ n ≤ 9223372036854775807) :
    Calls Try.prog 22 #[.int .i64 n, .int .i64 r] w fun e w' => e = .returned (.tuple #[.int .i64 (sroot n r).1, .int .i64 (sroot n r).2.1, .int .i64 (sroot n r).2.2]) ∧ Below w.heap.size w w' := by
  cases hr : inR n 3 1000000
  · go_enter Try.func22, Try.ntmps22
    go_wp2_with (go_at_call 41; refine (within_any _ _ _ _).mono ?_; rintro e w1 ⟨rfl, rfl⟩)
    go_ret3
    exact ⟨by simp [sroot, hr], (by repeat' (first | (with_reducible exact Below.refl _ _) | (with_reducible assumption) | (with_reducible refine Below.setCell ?_ ?_ _) | (with_reducible refine Below.alloc ?_ ?_ _) | (with_reducible refine Below.drew ?_) | (with_reducible refine below_drewN ?_ _) | (with_reducible refine Below.trans ?_ (Below.mono (by with_reducible assumption) ?_)) | go_size | (simp at *; omega)))⟩
  · obtain ⟨h1, h2⟩ := inR_iff.1 hr
    cases hq : inR r 1 (n - 1)
    · go_enter Try.func22, Try.ntmps22
      go_wp2_with (go_at_call 41; refine (within_any _ _ _ _).mono ?_; rintro e w1 ⟨rfl, rfl⟩)
      go_ret3
      exact ⟨by simp [sroot, hr, hq], (by repeat' (first | (with_reducible exact Below.refl _ _) | (with_reducible assumption) | (with_reducible refine Below.setCell ?_ ?_ _) | (with_reducible refine Below.alloc ?_ ?_ _) | (with_reducible refine Below.drew ?_) | (with_reducible refine below_drewN ?_ _) | (with_reducible refine Below.trans ?_ (Below.mono (by with_reducible assumption) ?_)) | go_size | (simp at *; omega)))⟩
    · obtain ⟨h3, h4⟩ := inR_iff.1 hq
      obtain ⟨q1, q2⟩ := mulP ⟨by omega, (by omega : r ≤ 1000000)⟩ ⟨by omega, (by omega : r ≤ 1000000)⟩ (a := r) (b := r)
      have q3 : r * r ≤ 1000000000000 := by omega
      clear q2
      cases hm : ((r * r + 1) % n == 0)
      · have hm' : ((r * r + 1) % n != 0) = true := by simp [bne, hm]
        go_enter Try.func22, Try.ntmps22
        go_wp2_with (go_at_call 41; refine (within_any _ _ _ _).mono ?_; rintro e w1 ⟨rfl, rfl⟩)
        go_ret3
        exact ⟨by simp only [sroot, hr, hq, hm]; simp, (by repeat' (first | (with_reducible exact Below.refl _ _) | (with_reducible assumption) | (with_reducible refine Below.setCell ?_ ?_ _) | (with_reducible refine Below.alloc ?_ ?_ _) | (with_reducible refine Below.drew ?_) | (with_reducible refine below_drewN ?_ _) | (with_reducible refine Below.trans ?_ (Below.mono (by with_reducible assumption) ?_)) | go_size | (simp at *; omega)))⟩
      · have hm' : ((r * r + 1) % n != 0) = false := by simp [bne, hm]
        obtain ⟨R, hR⟩ : ∃ R, sfF n n.toNat n r = R := ⟨_, rfl⟩
        have HR : Hid (sroot n r = (R.1, R.2, 0)) := Lib.hid (by rw [← hR]; simp only [sroot, hr, hq, hm]; simp)
        have HC : Hid (Cop n r) := Lib.hid (cop_root (by simpa using hm))
        go_enter Try.func22, Try.ntmps22
        go_wp2_with (go_at_call 41; refine (within_any _ _ _ _).mono ?_; rintro e w1 ⟨rfl, rfl⟩)
        go_loopw [7, 8] (fun a b  wr => ∃ x y : Int, a = .int .i64 x ∧ b = .int .i64 y ∧ 0 ≤ y ∧ y < x ∧ x ≤ n ∧ Hid (Cop x y) ∧ Hid (∃ k : Nat, x.toNat ≤ k ∧ sfF n k x y = R) ∧ Below w.heap.size w wr) (fun a b  wr => (intOf a).toNat)
        case atStart => exact ⟨n, r, rfl, rfl, by omega, by omega, by omega, HC, Lib.hid ⟨_, Nat.le_refl _, hR⟩, Below.refl _ _⟩
        case round =>
          clear hR hm hm' HC
          obtain ⟨x, y, rfl, rfl, hy1, hy2, hx2, HX, HK, hbel⟩ := hrel
          obtain ⟨k, hk, hK⟩ := HK.out
          obtain ⟨p1, p2⟩ := mulP ⟨by omega, (by omega : x ≤ 1000000)⟩ ⟨by omega, (by omega : x ≤ 1000000)⟩ (a := x) (b := x)
          have p3 : x * x ≤ 1000000000000 := by omega
          clear p2
          by_cases hlt : n < x * x
          · have hpos : 1 ≤ y := sf_pos h1 hlt HX.out ⟨hy1, hy2⟩
            obtain ⟨k', hk', hK'⟩ := sfF_next hlt hk ⟨hy1, hy2⟩
            have HK' := Lib.hid (hK'.symm.trans hK)
            have HC' := Lib.hid (cop_step HX.out)
            clear hK hK' HK
            have t1 : 0 ≤ x % y := Int.emod_nonneg _ (by omega)
            have t2 : x % y < y := Int.emod_lt_of_pos _ (by omega)
            go_wp2
            go_quiet (fail)
            go_wp2
            go_roundw
            case rel => exact ⟨y, x % y, rfl, rfl, t1, t2, by omega, HC', Lib.hid ⟨k', hk', HK'.out⟩, (by repeat' (first | (with_reducible exact Below.refl _ _) | (with_reducible assumption) | (with_reducible refine Below.setCell ?_ ?_ _) | (with_reducible refine Below.alloc ?_ ?_ _) | (with_reducible refine Below.drew ?_) | (with_reducible refine below_drewN ?_ _) | (with_reducible refine Below.trans ?_ (Below.mono (by with_reducible assumption) ?_)) | go_size | (simp at *; omega)))⟩
            case measure => simp [intOf]; omega
          · have e := (sfF_out n x y k hlt).symm.trans hK
            have HE := Lib.hid e
            clear hK e
            go_wp2
            go_ret3
            exact ⟨by rw [HR.out, ← HE.out]; simp, hbel⟩
theorem sSquaresFromRoot_any (n r : Int) (w : World) (b0 : -9223372036854775808 ≤ n ∧ n ≤ 9223372036854775807) :
    Calls Try.prog 23 #[.int .i64 n, .int .i64 r] w fun e w' => e = .returned (.tuple #[.int .i64 (sroot n r).1, .int .i64 (sroot n r).2.1, .int .i64 (sroot n r).2.2]) ∧ Below w.heap.size w w' := by
  cases hr : inR n 3 1000000
  · go_enter Try.func23, Try.ntmps23
    go_wp2_with (go_at_call 46; refine (in_any _ _ _ _).mono ?_; rintro e w1 ⟨rfl, rfl⟩)
    go_ret3
    exact ⟨by simp [sroot, hr], (by repeat' (first | (with_reducible exact Below.refl _ _) | (with_reducible assumption) | (with_reducible refine Below.setCell ?_ ?_ _) | (with_reducible refine Below.alloc ?_ ?_ _) | (with_reducible refine Below.drew ?_) | (with_reducible refine below_drewN ?_ _) | (with_reducible refine Below.trans ?_ (Below.mono (by with_reducible assumption) ?_)) | go_size | (simp at *; omega)))⟩
  · obtain ⟨h1, h2⟩ := inR_iff.1 hr
    cases hq : inR r 1 (n - 1)
    · go_enter Try.func23, Try.ntmps23
      go_wp2_with (go_at_call 46; refine (in_any _ _ _ _).mono ?_; rintro e w1 ⟨rfl, rfl⟩)
      go_ret3
      exact ⟨by simp [sroot, hr, hq], (by repeat' (first | (with_reducible exact Below.refl _ _) | (with_reducible assumption) | (with_reducible refine Below.setCell ?_ ?_ _) | (with_reducible refine Below.alloc ?_ ?_ _) | (with_reducible refine Below.drew ?_) | (with_reducible refine below_drewN ?_ _) | (with_reducible refine Below.trans ?_ (Below.mono (by with_reducible assumption) ?_)) | go_size | (simp at *; omega)))⟩
    · obtain ⟨h3, h4⟩ := inR_iff.1 hq
      obtain ⟨q1, q2⟩ := mulP ⟨by omega, (by omega : r ≤ 1000000)⟩ ⟨by omega, (by omega : r ≤ 1000000)⟩ (a := r) (b := r)
      have q3 : r * r ≤ 1000000000000 := by omega
      clear q2
      cases hm : ((r * r + 1) % n == 0)
      · have hm' : ((r * r + 1) % n != 0) = true := by simp [bne, hm]
        go_enter Try.func23, Try.ntmps23
        go_wp2_with (go_at_call 46; refine (in_any _ _ _ _).mono ?_; rintro e w1 ⟨rfl, rfl⟩)
        go_ret3
        exact ⟨by simp only [sroot, hr, hq, hm]; simp, (by repeat' (first | (with_reducible exact Below.refl _ _) | (with_reducible assumption) | (with_reducible refine Below.setCell ?_ ?_ _) | (with_reducible refine Below.alloc ?_ ?_ _) | (with_reducible refine Below.drew ?_) | (with_reducible refine below_drewN ?_ _) | (with_reducible refine Below.trans ?_ (Below.mono (by with_reducible assumption) ?_)) | go_size | (simp at *; omega)))⟩
      · have hm' : ((r * r + 1) % n != 0) = false := by simp [bne, hm]
        obtain ⟨R, hR⟩ : ∃ R, sfF n n.toNat n r = R := ⟨_, rfl⟩
        have HR : Hid (sroot n r = (R.1, R.2, 0)) := Lib.hid (by rw [← hR]; simp only [sroot, hr, hq, hm]; simp)
        have HC : Hid (Cop n r) := Lib.hid (cop_root (by simpa using hm))
        go_enter Try.func23, Try.ntmps23
        go_wp2_with (go_at_call 46; refine (in_any _ _ _ _).mono ?_; rintro e w1 ⟨rfl, rfl⟩)
        go_loopw [7, 8, 9] (fun a b c wr => ∃ x y : Int, a = .int .i64 x ∧ b = .int .i64 y ∧ 0 ≤ y ∧ y < x ∧ x ≤ n ∧ Hid (Cop x y) ∧ Hid (∃ k : Nat, x.toNat ≤ k ∧ sfF n k x y = R) ∧ Below w.heap.size w wr) (fun a b c wr => (intOf a).toNat)
        case atStart => exact ⟨n, r, rfl, rfl, by omega, by omega, by omega, HC, Lib.hid ⟨_, Nat.le_refl _, hR⟩, Below.refl _ _⟩
        case round =>
          clear hR hm hm' HC
          obtain ⟨x, y, rfl, rfl, hy1, hy2, hx2, HX, HK, hbel⟩ := hrel
          obtain ⟨k, hk, hK⟩ := HK.out
          obtain ⟨p1, p2⟩ := mulP ⟨by omega, (by omega : x ≤ 1000000)⟩ ⟨by omega, (by omega : x ≤ 1000000)⟩ (a := x) (b := x)
          have p3 : x * x ≤ 1000000000000 := by omega
          clear p2
          by_cases hlt : n < x * x
          · have hpos : 1 ≤ y := sf_pos h1 hlt HX.out ⟨hy1, hy2⟩
            obtain ⟨k', hk', hK'⟩ := sfF_next hlt hk ⟨hy1, hy2⟩
            have HK' := Lib.hid (hK'.symm.trans hK)
            have HC' := Lib.hid (cop_step HX.out)
            clear hK hK' HK
            have t1 : 0 ≤ x % y := Int.emod_nonneg _ (by omega)
            have t2 : x % y < y := Int.emod_lt_of_pos _ (by omega)
            go_wp2
            skip
            go_roundw
            case rel => exact ⟨y, x % y, rfl, rfl, t1, t2, by omega, HC', Lib.hid ⟨k', hk', HK'.out⟩, (by repeat' (first | (with_reducible exact Below.refl _ _) | (with_reducible assumption) | (with_reducible refine Below.setCell ?_ ?_ _) | (with_reducible refine Below.alloc ?_ ?_ _) | (with_reducible refine Below.drew ?_) | (with_reducible refine below_drewN ?_ _) | (with_reducible refine Below.trans ?_ (Below.mono (by with_reducible assumption) ?_)) | go_size | (simp at *; omega)))⟩
            case measure => simp [intOf]; omega
          · have e := (sfF_out n x y k hlt).symm.trans hK
            have HE := Lib.hid e
            clear hK e
            go_wp2
            go_ret3
            exact ⟨by rw [HR.out, ← HE.out]; simp, hbel⟩
end Go.Proofs.Ytodbmnbahldabaa
