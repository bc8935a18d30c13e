/- Square roots rounded down: the program's (by a double, then mended), and the reference's (by halving). -/
import Derived.Test.YtodbmnbahldabaaDoorBase
import Derived.Test.YtodbmnbahldabaaDoorFl
import Derived.Laws.Cover2
import Derived.Laws.FloatArith
import Derived.Laws.Externs
namespace Go.Proofs.YtodbmnbahldabaaDoor
open Go.ChangeShapes Go.WideShapes Go.ChangeAt Go.RowKit
open Ieee (double)
set_option linter.unusedVariables false
set_option maxHeartbeats 1000000

/-- The greatest r with r r at most n, digit by digit. -/
def isqF (n : Nat) : Nat → Nat → Nat
  | 0, r => r
  | k + 1, r => isqF n k (if (r + 2 ^ k) * (r + 2 ^ k) ≤ n then r + 2 ^ k else r)
def isq (n : Nat) : Nat := isqF n 32 0
theorem isqF_spec (n : Nat) : ∀ (k r : Nat), r * r ≤ n → n < (r + 2 ^ k) * (r + 2 ^ k) → isqF n k r * isqF n k r ≤ n ∧ n < (isqF n k r + 1) * (isqF n k r + 1) := by
  intro k
  induction k with
  | zero => intro r h1 h2; exact ⟨h1, h2⟩
  | succ k ih =>
    intro r h1 h2
    unfold isqF
    split
    · rename_i h
      refine ih _ h ?_
      rw [Nat.pow_succ, Nat.mul_two, ← Nat.add_assoc] at h2
      exact h2
    · rename_i h
      exact ih _ h1 (by omega)
def rt (n : Int) : Int := (isq n.toNat : Int)
theorem rt_spec {n : Int} (h0 : 0 ≤ n) (h1 : n < 18446744073709551616) : 0 ≤ rt n ∧ rt n * rt n ≤ n ∧ n < (rt n + 1) * (rt n + 1) := by
  obtain ⟨m, rfl⟩ := Int.eq_ofNat_of_zero_le h0
  have := isqF_spec m 32 0 (by omega) (by have : (0 + 2 ^ 32) * (0 + 2 ^ 32) = 18446744073709551616 := by decide
                                          omega)
  unfold rt isq
  rw [Int.toNat_natCast]
  refine ⟨by omega, ?_, ?_⟩
  · exact_mod_cast this.1
  · exact_mod_cast this.2
theorem sq_le_sq {a b : Int} (ha : 0 ≤ a) (h : a ≤ b) : a * a ≤ b * b := Int.mul_le_mul h h ha (by omega)
theorem rt_unique {n r : Int} (h0 : 0 ≤ n) (h1 : n < 18446744073709551616) (hr : 0 ≤ r) (a : r * r ≤ n) (b : n < (r + 1) * (r + 1)) : rt n = r := by
  obtain ⟨s0, s1, s2⟩ := rt_spec h0 h1
  rcases Int.lt_trichotomy (rt n) r with h | h | h
  · have := sq_le_sq (a := rt n + 1) (b := r) (by omega) (by omega)
    omega
  · exact h
  · have := sq_le_sq (a := r + 1) (b := rt n) (by omega) (by omega)
    omega
theorem root_le {r n B : Int} (hr : 0 ≤ r) (hB : 0 ≤ B) (h : r * r ≤ n) (hn : n < (B + 1) * (B + 1)) : r ≤ B := by
  rcases Int.lt_or_le B r with h1 | h1
  · have := sq_le_sq (a := B + 1) (b := r) (by omega) (by omega)
    omega
  · exact h1
theorem rt_le {n B : Int} (h0 : 0 ≤ n) (h1 : n < 18446744073709551616) (hB : 0 ≤ B) (hn : n < (B + 1) * (B + 1)) : rt n ≤ B :=
  root_le (rt_spec h0 h1).1 hB (rt_spec h0 h1).2.1 hn
theorem rt_neg {n : Int} (h : n ≤ 0) : rt n = 0 := by
  have e : rt n = rt 0 := by
    unfold rt
    have : n.toNat = (0 : Int).toNat := by omega
    rw [this]
  rw [e]
  exact rt_unique (by omega) (by omega) (by omega) (by omega) (by omega)
/-- Is n a square? -/
def sqB (n : Int) : Bool := decide (0 ≤ n) && (rt n * rt n == n)
theorem toSqrt (n : Int) (h0 : 0 ≤ n) : floatOfInt .f64 n = double.nearest false n.toNat 0 := by
  have e : decide (n < 0) = false := by simp; omega
  have e2 : n.natAbs = n.toNat := by omega
  unfold floatOfInt FloatKind.nearest FloatKind.encode
  simp [e, e2, Ieee.Format.write, FloatKind.format]
  try rfl
theorem extern_sqrt (x r : Nat) (h : double.sqrt x = some r) (w : World) :
    (callFunc 84 #[.float .f64 x]).run Tryd.prog w = .ok (.value (.float .f64 r)) w := by
  have hr : (Extern.MathSqrt.sqrt #[.float .f64 x]).run Tryd.prog w = .ok (.float .f64 r) w := by
    change Sem.run Tryd.prog (match double.sqrt x with
      | some r => (pure (Value.float FloatKind.f64 r) : Sem Value)
      | none => do pure (Value.float FloatKind.f64 (← choose (.nanBits .f64 x x)))) w = _
    rw [h]
    rfl
  rw [run_callFunc_extern Tryd.func84 (by kernel_rfl) (by kernel_rfl) (by kernel_rfl) (e := Extern.MathSqrt.sqrt) (by kernel_rfl), hr]
  rfl
theorem sqrt_any (x r : Nat) (h : double.sqrt x = some r) (w : World) :
    Calls Tryd.prog 74 #[.float .f64 x] w fun e w' => e = .returned (.float .f64 r) ∧ w = w' := by
  have hd := extern_sqrt x r h
  go_enter Tryd.func74, Tryd.ntmps74
  go_wp2
  go_ret
  exact ⟨rfl, rfl⟩
theorem root_any (n : Int) (w : World) (h0 : 0 ≤ n) (h1 : n ≤ 4000000000000000000) :
    Calls Tryd.prog 57 #[.int .i64 n] w fun e w' => e = .returned (.int .i64 (rt n)) ∧ w = w' := by
  obtain ⟨r, k, hr, hk, k0, k1⟩ := FlSqrt.sqrt_small n.toNat (by omega)
  have ht := toSqrt n h0
  rw [← ht] at hr
  have hv : floatToIntVal .f64 r .i64 = some k := by
    unfold floatToIntVal
    have : (FloatKind.f64.decode r).toInt .zero = some k := hk
    rw [this]
    have m1 : IntKind.i64.min = -9223372036854775808 := by decide
    have m2 : IntKind.i64.max = 9223372036854775807 := by decide
    rw [m1, m2]
    simp
    omega
  have hc : ∀ w, (convert 84 2 (.float .f64 r)).run Tryd.prog w = .ok (.int .i64 k) w := fun w => run_convert_float_int w 84 2 .f64 .i64 r k (by rw [Tryd.underlying84]; rfl) Tryd.underlying2 hv
  have HR : Hid (rt n = rt n) := Lib.hid rfl
  clear ht
  go_enter Tryd.func57, Tryd.ntmps57
  go_wp2_with fail
  refine (sqrt_any _ r hr _).mono ?_
  rintro e w1 ⟨rfl, rfl⟩
  go_wp2_with fail
  clear hr hk hv hc
  go_loop [3] (fun u => ∃ x : Int, u = .int .i64 x ∧ 0 ≤ x ∧ x ≤ 2147483648) (fun u => (intOf u).toNat)
  case atStart => exact ⟨_, rfl, k0, k1⟩
  case round =>
    obtain ⟨x, rfl, x0, x1⟩ := hrel
    have q0 : 0 ≤ x * x := Int.mul_nonneg x0 x0
    have q1 : x * x ≤ 4611686018427387904 := by have := sq_le_sq x0 x1; omega
    by_cases hx : n < x * x
    · have hx0 : 1 ≤ x := by
        rcases Int.lt_or_le 0 x with h | h
        · omega
        · have : x = 0 := by omega
          subst this
          omega
      go_wp2
      go_round
      case rel => exact ⟨x - 1, rfl, by omega, by omega⟩
      case measure => simp [intOf]; omega
    · go_wp2
      have hx2 : x * x ≤ n := by omega
      clear hx q1 x1
      go_loop [3] (fun u => ∃ y : Int, u = .int .i64 y ∧ 0 ≤ y ∧ y * y ≤ n) (fun u => (n + 1 - intOf u).toNat)
      case atStart => exact ⟨_, rfl, x0, hx2⟩
      case round =>
        clear x0 hx2 q0
        obtain ⟨y, rfl, y0, y1⟩ := hrel
        have y2 : y ≤ 2000000000 := root_le y0 (by omega) y1 (by omega)
        have q0 : 0 ≤ (y + 1) * (y + 1) := Int.mul_nonneg (by omega) (by omega)
        have q1 : (y + 1) * (y + 1) ≤ 4611686018427387904 := by have := sq_le_sq (a := y + 1) (b := 2147483648) (by omega) (by omega); omega
        by_cases hy : (y + 1) * (y + 1) ≤ n
        · have hyn : y < n := by
            have : (y + 1) * 1 ≤ (y + 1) * (y + 1) := Int.mul_le_mul_of_nonneg_left (by omega) (by omega)
            omega
          go_wp2
          go_round
          case rel => exact ⟨y + 1, rfl, by omega, hy⟩
          case measure => simp [intOf]; omega
        · have hf : rt n = y := rt_unique h0 (by omega) y0 y1 (by omega)
          go_wp2
          go_ret
          exact ⟨rfl, rfl⟩
theorem isSquare_any (n : Int) (w : World) (h1 : n ≤ 4000000000000000000) :
    Calls Tryd.prog 58 #[.int .i64 n] w fun e w' => e = .returned (.bool (sqB n)) ∧ w = w' := by
  go_enter Tryd.func58, Tryd.ntmps58
  by_cases h : n < 0
  · have hs : sqB n = false := by unfold sqB; simp; omega
    go_wp2
    go_ret
    exact ⟨ret_bool (by simp [hs]), rfl⟩
  · have h0 : 0 ≤ n := by omega
    obtain ⟨s0, s1, s2⟩ := rt_spec h0 (by omega)
    have q0 : 0 ≤ rt n * rt n := Int.mul_nonneg s0 s0
    have s3 : rt n ≤ 2000000000 := rt_le h0 (by omega) (by omega) (by omega)
    have hs : sqB n = (rt n * rt n == n) := by unfold sqB; simp [h0]
    go_wp2_with (go_at_call 57; refine (root_any _ _ h0 h1).mono ?_; rintro e w1 ⟨rfl, rfl⟩)
    go_ret
    exact ⟨ret_bool (by simp [hs]), rfl⟩
/-- What the halving finds: the root at most 10^9, and 0 for the negative. -/
theorem l07Root_any (n : Int) (w : World) (h1 : n ≤ 1000000000000000000) :
    Calls Tryd.prog 55 #[.int .i64 n] w fun e w' => e = .returned (.int .i64 (rt n)) ∧ w = w' := by
  go_enter Tryd.func55, Tryd.ntmps55
  go_wp2
  go_loop [3, 4, 5] (fun u v t => ∃ x y : Int, u = .int .i64 x ∧ v = .int .i64 y ∧ 0 ≤ x ∧ x < y ∧ y ≤ 1000000001 ∧ n < y * y ∧ (0 ≤ n → x * x ≤ n) ∧ (n < 0 → x = 0)) (fun u v t => (intOf v - intOf u).toNat)
  case atStart => exact ⟨_, _, rfl, rfl, by omega, by omega, by omega, by omega, by omega, by omega⟩
  case round =>
    obtain ⟨x, y, rfl, rfl, x0, x1, x2, x3, x4, x5⟩ := hrel
    by_cases hx : 1 < y - x
    · have e1 : Int.tdiv (x + y) 2 = (x + y) / 2 := Int.tdiv_eq_ediv_of_nonneg (by omega)
      have l1 : x < (x + y) / 2 := by omega
      have l2 : (x + y) / 2 < y := by omega
      generalize hm : (x + y) / 2 = m at e1 l1 l2
      clear hm
      have q0 : 0 ≤ m * m := Int.mul_nonneg (by omega) (by omega)
      have q1 : m * m ≤ 1000000002000000001 := by have := sq_le_sq (a := m) (b := 1000000001) (by omega) (by omega); omega
      by_cases hy : m * m ≤ n
      · go_wp2_with (simp only [e1])
        go_round
        case rel => exact ⟨m, y, rfl, rfl, by omega, by omega, by omega, x3, fun _ => hy, by omega⟩
        case measure => simp [intOf]; omega
      · go_wp2_with (simp only [e1])
        go_round
        case rel => exact ⟨x, m, rfl, rfl, by omega, by omega, by omega, by omega, x4, x5⟩
        case measure => simp [intOf]; omega
    · have ey : y = x + 1 := by omega
      have hf : rt n = x := by
        rcases Int.lt_or_le n 0 with h | h
        · have h2 : rt n = 0 := rt_neg (by omega)
          rw [h2, x5 h]
        · exact rt_unique h (by omega) x0 (x4 h) (by rw [← ey]; exact x3)
      go_wp2
      go_ret
      exact ⟨rfl, rfl⟩
theorem l07Square_any (n : Int) (w : World) (h1 : n ≤ 1000000000000000000) :
    Calls Tryd.prog 64 #[.int .i64 n] w fun e w' => e = .returned (.bool (sqB n)) ∧ w = w' := by
  go_enter Tryd.func64, Tryd.ntmps64
  have s3 : 0 ≤ rt n ∧ rt n ≤ 1000000000 ∧ sqB n = (rt n * rt n == n) := by
    rcases Int.lt_or_le n 0 with h | h
    · have h2 : rt n = 0 := rt_neg (by omega)
      refine ⟨by omega, by omega, ?_⟩
      unfold sqB
      rw [h2]
      simp
      omega
    · refine ⟨(rt_spec h (by omega)).1, rt_le h (by omega) (by omega) (by omega), ?_⟩
      unfold sqB
      simp [h]
  obtain ⟨s0, s1, s2⟩ := s3
  have q0 : 0 ≤ rt n * rt n := Int.mul_nonneg s0 s0
  have q1 : rt n * rt n ≤ 1000000000000000000 := by have := sq_le_sq s0 s1; omega
  go_wp2_with (go_at_call 55; refine (l07Root_any _ _ h1).mono ?_; rintro e w1 ⟨rfl, rfl⟩)
  go_ret
  exact ⟨ret_bool (by simp [s2]), rfl⟩
end Go.Proofs.YtodbmnbahldabaaDoor
