/- The text that shows a number by a form: both packages, and the law. -/
import Derived.Test.YtodbmnbahldabaaDoorShP
import Derived.Test.YtodbmnbahldabaaDoorFTx
namespace Go.Proofs.YtodbmnbahldabaaDoor
open Go.ChangeShapes Go.WideShapes Go.ChangeAt Go.RowKit
set_option linter.unusedVariables false
set_option maxHeartbeats 8000000
set_option maxRecDepth 20000
/-- The text of a form, two numbers and a value. -/
def snT (F A B C : ByteArray) : ByteArray := (((((F ++ ⟨#[32, 97, 116, 32, 40]⟩) ++ A) ++ ⟨#[44, 32]⟩) ++ B) ++ ⟨#[41, 32, 105, 115, 32]⟩) ++ C
def snR (a b c n : Int) : ByteArray := if (repR a b c n).2.2 = 0 then snT (ftR a b c) (itB (repR a b c n).1) (itB (repR a b c n).2.1) (itB n) else ⟨#[]⟩
theorem sn_join (F C : ByteArray) (x y : Int) : (((F ++ ⟨#[32, 97, 116, 32, 40]⟩) ++ dcB [x, y]) ++ ⟨#[41, 32, 105, 115, 32]⟩) ++ C = snT F (itB x) (itB y) C := by
  apply ba_ext
  simp [snT, dcB, itB, Lib.join_cons, Lib.joinTail]
theorem rep_bnd (a b c n : Int) : ((repR a b c n).2.2 = 0 → vF a b c = true) ∧ (-1000000000 ≤ (repR a b c n).1 ∧ (repR a b c n).1 ≤ 1000000000) ∧ (-1000000000 ≤ (repR a b c n).2.1 ∧ (repR a b c n).2.1 ≤ 1000000000) := by
  by_cases hc : chS a b c (inR n 1 10000) = 0
  · obtain ⟨hv, hf, hd⟩ := chS_zero hc
    have hn := inR_iff.1 hf
    obtain ⟨a0, h4, -, h5⟩ := hi_facts hv hd hn
    rcases hr : rpR a b c n with ⟨x, y, ok⟩
    cases ok
    · have e : repR a b c n = (0, 0, 3) := by unfold repR; rw [if_pos hc, hr]; rfl
      rw [e]
      exact ⟨fun h => by simp at h, by show (-1000000000 : Int) ≤ 0 ∧ (0 : Int) ≤ 1000000000; omega, by show (-1000000000 : Int) ≤ 0 ∧ (0 : Int) ≤ 1000000000; omega⟩
    · have e : repR a b c n = (x, y, 0) := by unfold repR; rw [if_pos hc, hr]; rfl
      rw [e]
      refine ⟨fun _ => hv, ?_⟩
      obtain ⟨y', y1, y2, rfl, hm⟩ := rp_yes_spec _ _ _ _ (show rpF a b c n ((hiY a b c n).toNat + 1) 0 = (x, y, true) from hr)
      obtain ⟨r, r0, r1, r2⟩ := mem_plF hm
      have hz := zS_facts hv hd hn (y := (y' : Int)) (by omega)
      obtain ⟨-, -, z1, z2⟩ := hz
      have hrr := le_of_sq (x := r) (m := 20000) (by omega) (by omega)
      have e2 : ab (2 * a * x) = 2 * a * ab x := by
        rw [ab_mul, ab_mul, ab_pos (show 0 ≤ a by omega)]
        rfl
      have h6 : ab (2 * a * x) ≤ 300000000 := by
        generalize 2 * a * x = T at *
        unfold ab
        omega
      have h7 := Int.mul_le_mul_of_nonneg_right (show 2 ≤ 2 * a by omega) (ab_nonneg x)
      have h8 : ab x ≤ 300000000 := by omega
      unfold ab at h8
      exact ⟨by show -1000000000 ≤ x ∧ x ≤ 1000000000; omega, by show -1000000000 ≤ (y' : Int) ∧ (y' : Int) ≤ 1000000000; omega⟩
  · have e : repR a b c n = (0, 0, chS a b c (inR n 1 10000)) := by unfold repR; rw [if_neg hc]
    rw [e]
    exact ⟨fun h => absurd h hc, by show (-1000000000 : Int) ≤ 0 ∧ (0 : Int) ≤ 1000000000; omega, by show (-1000000000 : Int) ≤ 0 ∧ (0 : Int) ≤ 1000000000; omega⟩
theorem ftR_size {a b c : Int} (hv : vF a b c = true) : (ftR a b c).size ≤ 100 := by
  obtain ⟨h1, h2, h3⟩ := vF_in hv
  unfold ftR
  rw [if_pos hv]
  exact ft_size h1 h2 h3
theorem iSN_any (a b c n : Int) (hn : -9223372036854775808 ≤ n ∧ n ≤ 9223372036854775807) (w : World) (ht : Tab w) :
    Calls Tryd.prog 7 #[.agg #[.int .i64 a, .int .i64 b, .int .i64 c], .int .i64 n] w fun e w' => e = .returned (.string (snR a b c n)) ∧ Below w.heap.size w w' := by
  have HT := Lib.hid ht
  obtain ⟨hb0, hb1, hb2⟩ := rep_bnd a b c n
  have RP := Lib.hid (iRepresentBy_any a b c n)
  clear ht
  rcases hr : repR a b c n with ⟨x, y, code⟩
  rw [hr] at RP hb0 hb1 hb2
  dsimp only at RP hb0 hb1 hb2
  by_cases hc : code = 0
  · subst hc
    have hv := hb0 rfl
    have HF : Hid (snR a b c n = (((ftR a b c ++ ⟨#[32, 97, 116, 32, 40]⟩) ++ dcB [x, y]) ++ ⟨#[41, 32, 105, 115, 32]⟩) ++ itB n) := Lib.hid (by unfold snR; rw [hr, if_pos rfl, sn_join])
    have hin : ∀ m ∈ [x, y], -9223372036854775808 ≤ m ∧ m ≤ 9223372036854775807 := by
      intro m hm
      simp at hm
      rcases hm with rfl | rfl <;> omega
    have DX := Lib.hid (decimals_any [x, y] (by simp) (by simp) hin)
    have FT := Lib.hid (iFT_any a b c)
    have DN := Lib.hid (show ∀ (w : World) (ht : Tab w), Calls Tryd.prog 26 #[.int .i64 n] w fun e w' => e = .returned (.string (itB n)) ∧ Below w.heap.size w w' from decimal_any n hn)
    have l1 := dcB_size hin
    have l2 := ftR_size hv
    have l3 := itB_size hn
    simp only [List.length_cons, List.length_nil] at l1
    generalize snR a b c n = R at *
    generalize dcB [x, y] = D at *
    generalize ftR a b c = F at *
    generalize itB n = C at *
    obtain ⟨x1, y1, z1, k1⟩ := strAddN (x := F) (y := ⟨#[32, 97, 116, 32, 40]⟩) (k := 100) (m := 5) l2 (Nat.le_refl _) (by omega)
    obtain ⟨x2, y2, z2, k2⟩ := strAddN (x := x1) (y := D) (m := 44) z1 (by omega) (by omega)
    obtain ⟨x3, y3, z3, k3⟩ := strAddN (x := x2) (y := ⟨#[41, 32, 105, 115, 32]⟩) (m := 5) z2 (Nat.le_refl _) (by omega)
    obtain ⟨x4, y4, z4, k4⟩ := strAddN (x := x3) (y := C) (m := 20) z3 l3 (by omega)
    rw [y1, y2, y3, y4] at HF
    have g1 : ¬ (9223372036854775807 < F.size + 5) := by omega
    have g2 : ¬ (9223372036854775807 < x1.size + D.size) := by omega
    have g3 : ¬ (9223372036854775807 < x2.size + 5) := by omega
    have g4 : ¬ (9223372036854775807 < x3.size + C.size) := by omega
    clear z1 z2 z3 z4 l1 l2 l3 hb0 hb1 hb2 hr hin hv
    go_enter Tryd.func7, Tryd.ntmps7
    go_wp2_with fail; refine (RP.out _).mono ?_; rintro e w1 ⟨rfl, hb1⟩; obtain ⟨hc1, hf1, -, hB1⟩ := bcell hb1; have hz1 := hb1.size; (try simp at hz1); (try have hk1_0 : w.heap.size < w1.heap.size := by omega); (try have hk1_1 : w.heap.size + 1 < w1.heap.size := by omega); (try have hk1_2 : w.heap.size + 1 + 1 < w1.heap.size := by omega); (try have hk1_3 : w.heap.size + 1 + 1 + 1 < w1.heap.size := by omega); (try have hk1_4 : wr.heap.size < w1.heap.size := by omega); (try have hk1_5 : wr.heap.size + 1 < w1.heap.size := by omega)
    go_wp2_with fail
    have gB : heapAt w1 w.heap.size = some (.cells #[.int .i64 a, .int .i64 b, .int .i64 c] 25 (0, 0)) := (by simp (disch := (first | omega | (simp; done) | (simp; omega))) [*])
    have hbw : Below w.heap.size w w1 := (by repeat' (first | (with_reducible exact Below.refl _ _) | (with_reducible assumption) | (with_reducible refine Below.setCell ?_ ?_ _) | (with_reducible refine Below.alloc ?_ ?_ _) | (with_reducible refine Below.drew ?_) | (with_reducible refine below_drewN ?_ _) | (with_reducible refine Below.trans ?_ (Below.mono (by with_reducible assumption) ?_)) | go_size | (simp at *; omega)))
    have HT1 := Lib.hid (HT.out.below hbw)
    have hsz1 := hbw.size
    clear hc1 hf1 hB1 hb1
    obtain ⟨zB, p1, p2, p3, f1, f2, f3⟩ := blk3 gB
    go_wp2_with fail
    refine (FT.out _ HT1.out).mono ?_
    rintro e w2 ⟨rfl, b2⟩
    have hbw2 := hbw.trans (b2.mono hsz1)
    have HT2 := Lib.hid (HT.out.below hbw2)
    have hsz2 := hbw2.size
    clear b2 p1 p2 p3 f1 f2 f3
    go_wp2_with fail
    refine (DX.out w2.heap.size 2 _ (HT2.out.below (Below.alloc (Below.refl _ _) (Nat.le_refl _) _)) (by simp) ?_).mono ?_
    · intro j hj
      have hj2 : j < 2 := by simpa using hj
      rcases j with _ | _ | j
      · simp [World.cell?_alloc_new]
      · simp [World.cell?_alloc_new]
      · omega
    rintro e w3 ⟨rfl, b3⟩
    have hbw3 : Below w.heap.size w w3 := (Below.alloc hbw2 hsz2 _).trans (b3.mono (by simp; omega))
    have HT3 := Lib.hid (HT.out.below hbw3)
    have hsz3 := hbw3.size
    clear b3
    go_wp2_with fail
    refine (DN.out _ HT3.out).mono ?_
    rintro e w4 ⟨rfl, b4⟩
    have hbw4 := hbw3.trans (b4.mono hsz3)
    clear b4
    go_wp2_with fail
    go_ret
    exact ⟨by first | (rw [HF.out]; done) | (rw [HF.out]; rfl) | (simp [HF.out]; done), hbw4⟩
  · have HF : Hid (snR a b c n = ⟨#[]⟩) := Lib.hid (by unfold snR; rw [hr, if_neg hc])
    have hcb : (code != 0) = true := by simp [hc]
    clear hr hb0 hb1 hb2
    go_enter Tryd.func7, Tryd.ntmps7
    go_wp2_with fail; refine (RP.out _).mono ?_; rintro e w1 ⟨rfl, hb1⟩; obtain ⟨hc1, hf1, -, hB1⟩ := bcell hb1; have hz1 := hb1.size; (try simp at hz1); (try have hk1_0 : w.heap.size < w1.heap.size := by omega); (try have hk1_1 : w.heap.size + 1 < w1.heap.size := by omega); (try have hk1_2 : w.heap.size + 1 + 1 < w1.heap.size := by omega); (try have hk1_3 : w.heap.size + 1 + 1 + 1 < w1.heap.size := by omega); (try have hk1_4 : wr.heap.size < w1.heap.size := by omega); (try have hk1_5 : wr.heap.size + 1 < w1.heap.size := by omega)
    go_wp2_with fail
    go_ret
    exact ⟨by first | (rw [HF.out]; done) | (rw [HF.out]; rfl) | (simp [HF.out]; done), (by repeat' (first | (with_reducible exact Below.refl _ _) | (with_reducible assumption) | (with_reducible refine Below.setCell ?_ ?_ _) | (with_reducible refine Below.alloc ?_ ?_ _) | (with_reducible refine Below.drew ?_) | (with_reducible refine below_drewN ?_ _) | (with_reducible refine Below.trans ?_ (Below.mono (by with_reducible assumption) ?_)) | go_size | (simp at *; omega)))⟩
theorem sSN_any (a b c n : Int) (hn : -9223372036854775808 ≤ n ∧ n ≤ 9223372036854775807) (w : World) :
    Calls Tryd.prog 5 #[.agg #[.int .i64 a, .int .i64 b, .int .i64 c], .int .i64 n] w fun e w' => e = .returned (.string (snR a b c n)) ∧ Below w.heap.size w w' := by
  obtain ⟨hb0, hb1, hb2⟩ := rep_bnd a b c n
  have RP := Lib.hid (sRepresentBy_any a b c n)
  rcases hr : repR a b c n with ⟨x, y, code⟩
  rw [hr] at RP hb0 hb1 hb2
  dsimp only at RP hb0 hb1 hb2
  by_cases hc : code = 0
  · subst hc
    have hv := hb0 rfl
    obtain ⟨v1, v2, v3⟩ := vF_in hv
    have HF : Hid (snR a b c n = snT (ftR a b c) (itB x) (itB y) (itB n)) := Lib.hid (by unfold snR; rw [hr, if_pos rfl])
    have FT := Lib.hid (by have h := l11Text_any a b c · v1 v2 v3; rw [show ftT (itB a) (itB b) (itB c) = ftR a b c from by unfold ftR; rw [if_pos hv]] at h; exact h)
    have DX := Lib.hid (show ∀ (w : World), Calls Tryd.prog 23 #[.int .i64 x] w fun e w' => e = .returned (.string (itB x)) ∧ Below w.heap.size w w' from l01Dec_any x (by omega))
    have DY := Lib.hid (show ∀ (w : World), Calls Tryd.prog 23 #[.int .i64 y] w fun e w' => e = .returned (.string (itB y)) ∧ Below w.heap.size w w' from l01Dec_any y (by omega))
    have DN := Lib.hid (show ∀ (w : World), Calls Tryd.prog 23 #[.int .i64 n] w fun e w' => e = .returned (.string (itB n)) ∧ Below w.heap.size w w' from l01Dec_any n hn)
    have l1 := itB_size (n := x) (by omega)
    have l4 := itB_size (n := y) (by omega)
    have l2 := ftR_size hv
    have l3 := itB_size hn
    generalize snR a b c n = R at *
    generalize ftR a b c = F at *
    unfold snT at HF
    generalize itB n = C at *
    generalize itB x = X at *
    generalize itB y = Y at *
    obtain ⟨x1, y1, z1, k1⟩ := strAddN (x := F) (y := ⟨#[32, 97, 116, 32, 40]⟩) (k := 100) (m := 5) l2 (Nat.le_refl _) (by omega)
    obtain ⟨x2, y2, z2, k2⟩ := strAddN (x := x1) (y := X) (m := 20) z1 l1 (by omega)
    obtain ⟨x3, y3, z3, k3⟩ := strAddN (x := x2) (y := ⟨#[44, 32]⟩) (m := 2) z2 (Nat.le_refl _) (by omega)
    obtain ⟨x4, y4, z4, k4⟩ := strAddN (x := x3) (y := Y) (m := 20) z3 l4 (by omega)
    obtain ⟨x5, y5, z5, k5⟩ := strAddN (x := x4) (y := ⟨#[41, 32, 105, 115, 32]⟩) (m := 5) z4 (Nat.le_refl _) (by omega)
    obtain ⟨x6, y6, z6, k6⟩ := strAddN (x := x5) (y := C) (m := 20) z5 l3 (by omega)
    rw [y1, y2, y3, y4, y5, y6] at HF
    have g1 : ¬ (9223372036854775807 < F.size + 5) := by omega
    have g2 : ¬ (9223372036854775807 < x1.size + X.size) := by omega
    have g3 : ¬ (9223372036854775807 < x2.size + 2) := by omega
    have g4 : ¬ (9223372036854775807 < x3.size + Y.size) := by omega
    have g5 : ¬ (9223372036854775807 < x4.size + 5) := by omega
    have g6 : ¬ (9223372036854775807 < x5.size + C.size) := by omega
    clear z1 z2 z3 z4 z5 z6 l1 l2 l3 l4 hb0 hb1 hb2 hr hv v1 v2 v3
    go_enter Tryd.func5, Tryd.ntmps5
    go_wp2_with fail; refine (RP.out _).mono ?_; rintro e w1 ⟨rfl, hb1⟩; obtain ⟨hc1, hf1, -, hB1⟩ := bcell hb1; have hz1 := hb1.size; (try simp at hz1); (try have hk1_0 : w.heap.size < w1.heap.size := by omega); (try have hk1_1 : w.heap.size + 1 < w1.heap.size := by omega); (try have hk1_2 : w.heap.size + 1 + 1 < w1.heap.size := by omega); (try have hk1_3 : w.heap.size + 1 + 1 + 1 < w1.heap.size := by omega); (try have hk1_4 : wr.heap.size < w1.heap.size := by omega); (try have hk1_5 : wr.heap.size + 1 < w1.heap.size := by omega)
    go_wp2_with fail; refine (FT.out _).mono ?_; rintro e w2 ⟨rfl, hb2⟩; obtain ⟨hc2, hf2, -, hB2⟩ := bcell hb2; have hz2 := hb2.size; (try simp at hz2); (try have hk2_0 : w.heap.size < w2.heap.size := by omega); (try have hk2_1 : w.heap.size + 1 < w2.heap.size := by omega); (try have hk2_2 : w.heap.size + 1 + 1 < w2.heap.size := by omega); (try have hk2_3 : w.heap.size + 1 + 1 + 1 < w2.heap.size := by omega); (try have hk2_4 : wr.heap.size < w2.heap.size := by omega); (try have hk2_5 : wr.heap.size + 1 < w2.heap.size := by omega); (try have hk2_6 : w1.heap.size < w2.heap.size := by omega); (try have hk2_7 : w1.heap.size + 1 < w2.heap.size := by omega)
    go_wp2_with fail; refine (DX.out _).mono ?_; rintro e w3 ⟨rfl, hb3⟩; obtain ⟨hc3, hf3, -, hB3⟩ := bcell hb3; have hz3 := hb3.size; (try simp at hz3); (try have hk3_0 : w.heap.size < w3.heap.size := by omega); (try have hk3_1 : w.heap.size + 1 < w3.heap.size := by omega); (try have hk3_2 : w.heap.size + 1 + 1 < w3.heap.size := by omega); (try have hk3_3 : w.heap.size + 1 + 1 + 1 < w3.heap.size := by omega); (try have hk3_4 : wr.heap.size < w3.heap.size := by omega); (try have hk3_5 : wr.heap.size + 1 < w3.heap.size := by omega); (try have hk3_6 : w1.heap.size < w3.heap.size := by omega); (try have hk3_7 : w1.heap.size + 1 < w3.heap.size := by omega); (try have hk3_8 : w2.heap.size < w3.heap.size := by omega); (try have hk3_9 : w2.heap.size + 1 < w3.heap.size := by omega)
    go_wp2_with fail; refine (DY.out _).mono ?_; rintro e w4 ⟨rfl, hb4⟩; obtain ⟨hc4, hf4, -, hB4⟩ := bcell hb4; have hz4 := hb4.size; (try simp at hz4); (try have hk4_0 : w.heap.size < w4.heap.size := by omega); (try have hk4_1 : w.heap.size + 1 < w4.heap.size := by omega); (try have hk4_2 : w.heap.size + 1 + 1 < w4.heap.size := by omega); (try have hk4_3 : w.heap.size + 1 + 1 + 1 < w4.heap.size := by omega); (try have hk4_4 : wr.heap.size < w4.heap.size := by omega); (try have hk4_5 : wr.heap.size + 1 < w4.heap.size := by omega); (try have hk4_6 : w1.heap.size < w4.heap.size := by omega); (try have hk4_7 : w1.heap.size + 1 < w4.heap.size := by omega); (try have hk4_8 : w2.heap.size < w4.heap.size := by omega); (try have hk4_9 : w2.heap.size + 1 < w4.heap.size := by omega); (try have hk4_10 : w3.heap.size < w4.heap.size := by omega); (try have hk4_11 : w3.heap.size + 1 < w4.heap.size := by omega)
    go_wp2_with fail; refine (DN.out _).mono ?_; rintro e w5 ⟨rfl, hb5⟩; obtain ⟨hc5, hf5, -, hB5⟩ := bcell hb5; have hz5 := hb5.size; (try simp at hz5); (try have hk5_0 : w.heap.size < w5.heap.size := by omega); (try have hk5_1 : w.heap.size + 1 < w5.heap.size := by omega); (try have hk5_2 : w.heap.size + 1 + 1 < w5.heap.size := by omega); (try have hk5_3 : w.heap.size + 1 + 1 + 1 < w5.heap.size := by omega); (try have hk5_4 : wr.heap.size < w5.heap.size := by omega); (try have hk5_5 : wr.heap.size + 1 < w5.heap.size := by omega); (try have hk5_6 : w1.heap.size < w5.heap.size := by omega); (try have hk5_7 : w1.heap.size + 1 < w5.heap.size := by omega); (try have hk5_8 : w2.heap.size < w5.heap.size := by omega); (try have hk5_9 : w2.heap.size + 1 < w5.heap.size := by omega); (try have hk5_10 : w3.heap.size < w5.heap.size := by omega); (try have hk5_11 : w3.heap.size + 1 < w5.heap.size := by omega); (try have hk5_12 : w4.heap.size < w5.heap.size := by omega); (try have hk5_13 : w4.heap.size + 1 < w5.heap.size := by omega)
    go_wp2_with fail
    go_ret
    exact ⟨by first | (rw [HF.out]; done) | (rw [HF.out]; rfl) | (simp [HF.out]; done), (by repeat' (first | (with_reducible exact Below.refl _ _) | (with_reducible assumption) | (with_reducible refine Below.setCell ?_ ?_ _) | (with_reducible refine Below.alloc ?_ ?_ _) | (with_reducible refine Below.drew ?_) | (with_reducible refine below_drewN ?_ _) | (with_reducible refine Below.trans ?_ (Below.mono (by with_reducible assumption) ?_)) | go_size | (simp at *; omega)))⟩
  · have HF : Hid (snR a b c n = ⟨#[]⟩) := Lib.hid (by unfold snR; rw [hr, if_neg hc])
    have hcb : (code != 0) = true := by simp [hc]
    clear hr hb0 hb1 hb2
    go_enter Tryd.func5, Tryd.ntmps5
    go_wp2_with fail; refine (RP.out _).mono ?_; rintro e w1 ⟨rfl, hb1⟩; obtain ⟨hc1, hf1, -, hB1⟩ := bcell hb1; have hz1 := hb1.size; (try simp at hz1); (try have hk1_0 : w.heap.size < w1.heap.size := by omega); (try have hk1_1 : w.heap.size + 1 < w1.heap.size := by omega); (try have hk1_2 : w.heap.size + 1 + 1 < w1.heap.size := by omega); (try have hk1_3 : w.heap.size + 1 + 1 + 1 < w1.heap.size := by omega); (try have hk1_4 : wr.heap.size < w1.heap.size := by omega); (try have hk1_5 : wr.heap.size + 1 < w1.heap.size := by omega)
    go_wp2_with fail
    go_ret
    exact ⟨by first | (rw [HF.out]; done) | (rw [HF.out]; rfl) | (simp [HF.out]; done), (by repeat' (first | (with_reducible exact Below.refl _ _) | (with_reducible assumption) | (with_reducible refine Below.setCell ?_ ?_ _) | (with_reducible refine Below.alloc ?_ ?_ _) | (with_reducible refine Below.drew ?_) | (with_reducible refine below_drewN ?_ _) | (with_reducible refine Below.trans ?_ (Below.mono (by with_reducible assumption) ?_)) | go_size | (simp at *; omega)))⟩
theorem wf64 {a : Int} (h : (Lit.int .i64 a).wf = true) : -9223372036854775808 ≤ a ∧ a ≤ 9223372036854775807 := by
  have e1 : IntKind.i64.min = -9223372036854775808 := by decide
  have e2 : IntKind.i64.max = 9223372036854775807 := by decide
  simp [Lit.wf, e1, e2] at h
  omega
theorem walk_FnExactShownText (a b c : Int) (wa : (Lit.int .i64 a).wf = true) (wb : (Lit.int .i64 b).wf = true) (wc : (Lit.int .i64 c).wf = true) (n : Int) (wn : (Lit.int .i64 n).wf = true) (w : World) (ht : Tab w) :
    Calls Tryd.prog 3 #[.agg #[.int .i64 a, .int .i64 b, .int .i64 c], .int .i64 n] w fun e w' => e = .returned (.bool true) ∧ Below w.heap.size w w' := by
  have HT := Lib.hid ht
  have E1 := Lib.hid (sSN_any a b c n (wf64 wn))
  have E2 := Lib.hid (iSN_any a b c n (wf64 wn))
  generalize snR a b c n = R at *
  clear ht
  go_enter Tryd.func3, Tryd.ntmps3
  go_wp2_with fail; refine (toForm_any _ _ _ _).mono ?_; rintro e w1 ⟨rfl, hb1⟩; obtain ⟨hc1, hf1, -, hB1⟩ := bcell hb1; have hz1 := hb1.size; (try simp at hz1); (try have hk1_0 : w.heap.size < w1.heap.size := by omega); (try have hk1_1 : w.heap.size + 1 < w1.heap.size := by omega); (try have hk1_2 : w.heap.size + 1 + 1 < w1.heap.size := by omega); (try have hk1_3 : w.heap.size + 1 + 1 + 1 < w1.heap.size := by omega); (try have hk1_4 : wr.heap.size < w1.heap.size := by omega); (try have hk1_5 : wr.heap.size + 1 < w1.heap.size := by omega)
  go_wp2_with fail; refine (E1.out _).mono ?_; rintro e w2 ⟨rfl, hb2⟩; obtain ⟨hc2, hf2, -, hB2⟩ := bcell hb2; have hz2 := hb2.size; (try simp at hz2); (try have hk2_0 : w.heap.size < w2.heap.size := by omega); (try have hk2_1 : w.heap.size + 1 < w2.heap.size := by omega); (try have hk2_2 : w.heap.size + 1 + 1 < w2.heap.size := by omega); (try have hk2_3 : w.heap.size + 1 + 1 + 1 < w2.heap.size := by omega); (try have hk2_4 : wr.heap.size < w2.heap.size := by omega); (try have hk2_5 : wr.heap.size + 1 < w2.heap.size := by omega); (try have hk2_6 : w1.heap.size < w2.heap.size := by omega); (try have hk2_7 : w1.heap.size + 1 < w2.heap.size := by omega)
  go_wp2_with fail; refine (toForm_any _ _ _ _).mono ?_; rintro e w3 ⟨rfl, hb3⟩; obtain ⟨hc3, hf3, -, hB3⟩ := bcell hb3; have hz3 := hb3.size; (try simp at hz3); (try have hk3_0 : w.heap.size < w3.heap.size := by omega); (try have hk3_1 : w.heap.size + 1 < w3.heap.size := by omega); (try have hk3_2 : w.heap.size + 1 + 1 < w3.heap.size := by omega); (try have hk3_3 : w.heap.size + 1 + 1 + 1 < w3.heap.size := by omega); (try have hk3_4 : wr.heap.size < w3.heap.size := by omega); (try have hk3_5 : wr.heap.size + 1 < w3.heap.size := by omega); (try have hk3_6 : w1.heap.size < w3.heap.size := by omega); (try have hk3_7 : w1.heap.size + 1 < w3.heap.size := by omega); (try have hk3_8 : w2.heap.size < w3.heap.size := by omega); (try have hk3_9 : w2.heap.size + 1 < w3.heap.size := by omega)
  go_wp2_with fail
  have hb0 : Below w.heap.size w w3 := (by repeat' (first | (with_reducible exact Below.refl _ _) | (with_reducible assumption) | (with_reducible refine Below.setCell ?_ ?_ _) | (with_reducible refine Below.alloc ?_ ?_ _) | (with_reducible refine Below.drew ?_) | (with_reducible refine below_drewN ?_ _) | (with_reducible refine Below.trans ?_ (Below.mono (by with_reducible assumption) ?_)) | go_size | (simp at *; omega)))
  have HT3 := Lib.hid (HT.out.below hb0)
  go_wp2_with fail; refine (E2.out _ HT3.out).mono ?_; rintro e w4 ⟨rfl, hb4⟩; obtain ⟨hc4, hf4, -, hB4⟩ := bcell hb4; have hz4 := hb4.size; (try simp at hz4); (try have hk4_0 : w.heap.size < w4.heap.size := by omega); (try have hk4_1 : w.heap.size + 1 < w4.heap.size := by omega); (try have hk4_2 : w.heap.size + 1 + 1 < w4.heap.size := by omega); (try have hk4_3 : w.heap.size + 1 + 1 + 1 < w4.heap.size := by omega); (try have hk4_4 : wr.heap.size < w4.heap.size := by omega); (try have hk4_5 : wr.heap.size + 1 < w4.heap.size := by omega); (try have hk4_6 : w1.heap.size < w4.heap.size := by omega); (try have hk4_7 : w1.heap.size + 1 < w4.heap.size := by omega); (try have hk4_8 : w2.heap.size < w4.heap.size := by omega); (try have hk4_9 : w2.heap.size + 1 < w4.heap.size := by omega); (try have hk4_10 : w3.heap.size < w4.heap.size := by omega); (try have hk4_11 : w3.heap.size + 1 < w4.heap.size := by omega)
  go_wp2_with fail
  go_ret
  exact ⟨rfl, (by repeat' (first | (with_reducible exact Below.refl _ _) | (with_reducible assumption) | (with_reducible refine Below.setCell ?_ ?_ _) | (with_reducible refine Below.alloc ?_ ?_ _) | (with_reducible refine Below.drew ?_) | (with_reducible refine below_drewN ?_ _) | (with_reducible refine Below.trans ?_ (Below.mono (by with_reducible assumption) ?_)) | go_size | (simp at *; omega)))⟩
end Go.Proofs.YtodbmnbahldabaaDoor
