/- The classes of solutions, and the class of one: both packages, and the laws. -/
import Derived.Test.YtdbbjmcfpfalhaaClsB
namespace Go.Proofs.Ytdbbjmcfpfalhaa
open Go.ChangeShapes Go.WideShapes Go.ChangeAt Go.RowKit
set_option linter.unusedVariables false
set_option maxHeartbeats 8000000
set_option maxRecDepth 20000
theorem iCS_bad (d n M k : Int) (w : World) (hk : k ≠ 0)
    (LK : ∀ w : World, Calls Try.prog 26 #[.int .i64 d, .int .i64 n] w fun e w' => e = .returned (.tuple #[.int .i64 M, .int .i64 k]) ∧ Below w.heap.size w w') :
    Calls Try.prog 35 #[.int .i64 d, .int .i64 n] w (RetL 25 2 gP w [] k) := by
  have LK' := Lib.hid LK
  have hkb : (k != 0) = true := by simp [hk]
  clear LK
  go_enter Try.func35, Try.ntmps35
  go_wp2_with fail; refine (LK'.out _).mono ?_; rintro e w1 ⟨rfl, hb1⟩; obtain ⟨hc1, hf1, -, hB1⟩ := bcell hb1; have hz1 := hb1.size; (try simp at hz1); (try have hk1_0 : w.heap.size < w1.heap.size := by omega); (try have hk1_1 : w.heap.size + 1 < w1.heap.size := by omega); (try have hk1_2 : w.heap.size + 1 + 1 < w1.heap.size := by omega); (try have hk1_3 : w.heap.size + 1 + 1 + 1 < w1.heap.size := by omega); (try have hk1_4 : wr.heap.size < w1.heap.size := by omega); (try have hk1_5 : wr.heap.size + 1 < w1.heap.size := by omega)
  go_wp2_with fail
  go_ret2
  unfold RetL
  exact ⟨_, rfl, Own.nil _ _ _ _ _, (by repeat' (first | (with_reducible exact Below.refl _ _) | (with_reducible assumption) | (with_reducible refine Below.setCell ?_ ?_ _) | (with_reducible refine Below.alloc ?_ ?_ _) | (with_reducible refine Below.drew ?_) | (with_reducible refine below_drewN ?_ _) | (with_reducible refine Below.trans ?_ (Below.mono (by with_reducible assumption) ?_)) | go_size | (simp at *; omega)))⟩
theorem sCS_bad (d n M k : Int) (w : World) (hk : k ≠ 0)
    (LK : ∀ w : World, Calls Try.prog 52 #[.int .i64 d, .int .i64 n] w fun e w' => e = .returned (.tuple #[.int .i64 M, .int .i64 k]) ∧ Below w.heap.size w w') :
    Calls Try.prog 34 #[.int .i64 d, .int .i64 n] w (RetL 25 2 gP w [] k) := by
  have LK' := Lib.hid LK
  have hkb : (k != 0) = true := by simp [hk]
  clear LK
  go_enter Try.func34, Try.ntmps34
  go_wp2_with fail; refine (LK'.out _).mono ?_; rintro e w1 ⟨rfl, hb1⟩; obtain ⟨hc1, hf1, -, hB1⟩ := bcell hb1; have hz1 := hb1.size; (try simp at hz1); (try have hk1_0 : w.heap.size < w1.heap.size := by omega); (try have hk1_1 : w.heap.size + 1 < w1.heap.size := by omega); (try have hk1_2 : w.heap.size + 1 + 1 < w1.heap.size := by omega); (try have hk1_3 : w.heap.size + 1 + 1 + 1 < w1.heap.size := by omega); (try have hk1_4 : wr.heap.size < w1.heap.size := by omega); (try have hk1_5 : wr.heap.size + 1 < w1.heap.size := by omega)
  go_wp2_with fail
  go_ret2
  unfold RetL
  exact ⟨_, rfl, Own.nil _ _ _ _ _, (by repeat' (first | (with_reducible exact Below.refl _ _) | (with_reducible assumption) | (with_reducible refine Below.setCell ?_ ?_ _) | (with_reducible refine Below.alloc ?_ ?_ _) | (with_reducible refine Below.drew ?_) | (with_reducible refine below_drewN ?_ _) | (with_reducible refine Below.trans ?_ (Below.mono (by with_reducible assumption) ?_)) | go_size | (simp at *; omega)))⟩
theorem sCS_any (d n : Int) (L : List Pp) (N : Nat) (w : World)
    (LK : ∀ w : World, Calls Try.prog 52 #[.int .i64 d, .int .i64 n] w fun e w' => e = .returned (.tuple #[.int .i64 N, .int .i64 0]) ∧ Below w.heap.size w w')
    (CL : ∀ w : World, Calls Try.prog 61 #[.int .i64 d, .int .i64 n, .int .i64 N] w (RetL1 25 2 gP w L)) :
    Calls Try.prog 34 #[.int .i64 d, .int .i64 n] w (RetL 25 2 gP w L 0) := by
  have LK' := Lib.hid LK
  have CL' := Lib.hid CL
  clear LK CL
  go_enter Try.func34, Try.ntmps34
  go_wp2_with fail; refine (LK'.out _).mono ?_; rintro e w1 ⟨rfl, hb1⟩; obtain ⟨hc1, hf1, -, hB1⟩ := bcell hb1; have hz1 := hb1.size; (try simp at hz1); (try have hk1_0 : w.heap.size < w1.heap.size := by omega); (try have hk1_1 : w.heap.size + 1 < w1.heap.size := by omega); (try have hk1_2 : w.heap.size + 1 + 1 < w1.heap.size := by omega); (try have hk1_3 : w.heap.size + 1 + 1 + 1 < w1.heap.size := by omega); (try have hk1_4 : wr.heap.size < w1.heap.size := by omega); (try have hk1_5 : wr.heap.size + 1 < w1.heap.size := by omega)
  go_wp2_with fail
  refine (CL'.out _).mono ?_
  intro e w2 hr
  unfold RetL1 at hr
  obtain ⟨v, rfl, o2, hb2⟩ := hr
  have O2 := Lib.hid o2
  clear o2
  obtain ⟨hc2, hf2, -, hB2⟩ := bcell hb2; have hz2 := hb2.size; (try simp at hz2); (try have hk2_0 : w.heap.size < w2.heap.size := by omega); (try have hk2_1 : w.heap.size + 1 < w2.heap.size := by omega); (try have hk2_2 : w.heap.size + 1 + 1 < w2.heap.size := by omega); (try have hk2_3 : w.heap.size + 1 + 1 + 1 < w2.heap.size := by omega); (try have hk2_4 : wr.heap.size < w2.heap.size := by omega); (try have hk2_5 : wr.heap.size + 1 < w2.heap.size := by omega); (try have hk2_6 : w1.heap.size < w2.heap.size := by omega); (try have hk2_7 : w1.heap.size + 1 < w2.heap.size := by omega)
  go_wp2_with fail
  go_ret2
  unfold RetL
  exact ⟨_, rfl, O2.out.mono hz1, (by repeat' (first | (with_reducible exact Below.refl _ _) | (with_reducible assumption) | (with_reducible refine Below.setCell ?_ ?_ _) | (with_reducible refine Below.alloc ?_ ?_ _) | (with_reducible refine Below.drew ?_) | (with_reducible refine below_drewN ?_ _) | (with_reducible refine Below.trans ?_ (Below.mono (by with_reducible assumption) ?_)) | go_size | (simp at *; omega)))⟩
/-- What both packages find. -/
theorem cs_all (d n : Int) : ∃ (L : List Pp) (c : Int), L.length ≤ 1000000 ∧ (c = 0 → eqC d n = 0 ∧ PlA d L ∧ (∃ N : Int,
      (∀ w : World, Calls Try.prog 52 #[.int .i64 d, .int .i64 n] w fun e w' => e = .returned (.tuple #[.int .i64 N, .int .i64 0]) ∧ Below w.heap.size w w') ∧
      (∀ w : World, Calls Try.prog 61 #[.int .i64 d, .int .i64 n, .int .i64 N] w (RetL1 25 2 gP w L)))) ∧
    (c ≠ 0 → ∃ N : Int, ∀ w : World, Calls Try.prog 52 #[.int .i64 d, .int .i64 n] w fun e w' => e = .returned (.tuple #[.int .i64 N, .int .i64 c]) ∧ Below w.heap.size w w') ∧
    (∀ w : World, Calls Try.prog 35 #[.int .i64 d, .int .i64 n] w (RetL 25 2 gP w L c)) := by
  obtain ⟨M, k, hk, HI, HS⟩ := look_both2 d n
  by_cases hk0 : k = 0
  · obtain ⟨hc, m0, m1⟩ := hk hk0
    obtain ⟨⟨hd, hn, hn0⟩, -⟩ := eqC_zero hc
    obtain ⟨N, rfl⟩ := Int.eq_ofNat_of_zero_le m0
    subst hk0
    have hl := cs_len d n (N + 1)
    exact ⟨csF d n (N + 1), 0, by omega, fun _ => ⟨hc, cs_pl hd hn _ (by omega), _, HS, fun w => l10Classes_any d n N w hd hn hn0 (by omega)⟩, fun h => absurd rfl h, fun w => iCS_any d n N w hd hn hn0 (by omega) HI⟩
  · exact ⟨[], k, by simp, fun h => absurd h hk0, fun _ => ⟨M, HS⟩, fun w => iCS_bad d n M k w hk0 HI⟩
theorem cs_both (d n : Int) : ∃ (L : List Pp) (c : Int), L.length ≤ 1000000 ∧ (∀ w : World, Calls Try.prog 35 #[.int .i64 d, .int .i64 n] w (RetL 25 2 gP w L c)) ∧
    (∀ w : World, Calls Try.prog 34 #[.int .i64 d, .int .i64 n] w (RetL 25 2 gP w L c)) := by
  obtain ⟨M, k, hk, HI, HS⟩ := look_both2 d n
  by_cases hk0 : k = 0
  · obtain ⟨hc, m0, m1⟩ := hk hk0
    obtain ⟨⟨hd, hn, hn0⟩, -⟩ := eqC_zero hc
    obtain ⟨N, rfl⟩ := Int.eq_ofNat_of_zero_le m0
    subst hk0
    have hl := cs_len d n (N + 1)
    exact ⟨csF d n (N + 1), 0, by omega, fun w => iCS_any d n N w hd hn hn0 (by omega) HI, fun w => sCS_any d n _ N w HS (fun w => l10Classes_any d n N w hd hn hn0 (by omega))⟩
  · exact ⟨[], k, by simp, fun w => iCS_bad d n M k w hk0 HI, fun w => sCS_bad d n M k w hk0 HS⟩
theorem walk_FnExactClassSolutions (d : Int) (wd : (Lit.int .i64 d).wf = true) (n : Int) (wn : (Lit.int .i64 n).wf = true) (w : World) :
    Calls Try.prog 11 #[.int .i64 d, .int .i64 n] w fun e' w' => e' = .returned (.bool true) ∧ Below w.heap.size w w' := by
  obtain ⟨L, c, hl, HI0, HS0⟩ := cs_both d n
  have HI := Lib.hid HI0
  have HS := Lib.hid HS0
  clear HI0 HS0
  go_enter Try.func11, Try.ntmps11
  go_wp2_with fail
  refine (HS.out _).mono ?_
  intro e w1 hr
  unfold RetL at hr
  obtain ⟨v0, rfl, o1, b1⟩ := hr
  have O1 := Lib.hid o1
  clear o1
  have B1 := Lib.hid b1
  clear b1
  go_wp2_with fail
  refine (HI.out _).mono ?_
  intro e w2 hr
  unfold RetL at hr
  obtain ⟨v1, rfl, o2, b2⟩ := hr
  have O2 := Lib.hid o2
  clear o2
  have B2 := Lib.hid b2
  clear b2
  go_wp2_with fail
  refine (eqPellPairS_same v1 v0 L _ _ _ O2.out (O1.out.below B2.out) hl).mono ?_
  rintro e w3 ⟨rfl, b3⟩
  have B3 := Lib.hid b3
  clear b3
  go_wp2_with fail
  refine (markPellPairS_any v1 L w1.heap.size _ (O2.out.below B3.out) hl).mono ?_
  rintro e w4 ⟨rfl, o4, g4⟩
  have O4 := Lib.hid o4
  have G4 := Lib.hid g4
  clear o4 g4
  have S1 := B1.out.size
  have S2 := B2.out.size
  have S3 := B3.out.size
  have S4 := G4.out.size
  go_wp2_with fail
  refine (heldPellPairS_any v1 L w1.heap.size _ O4.out hl).mono ?_
  rintro e w_ ⟨rfl, rfl⟩
  go_wp2_with fail
  refine (HI.out _).mono ?_
  intro e w5 hr
  unfold RetL at hr
  obtain ⟨v2, rfl, o5, b5⟩ := hr
  have O5 := Lib.hid o5
  clear o5
  have B5 := Lib.hid b5
  clear b5
  go_wp2_with fail
  refine (eqPellPairS_same v2 v0 L _ _ _ O5.out ((asideL ((O1.out.below B2.out).below B3.out) O1.out (by omega) (O2.out.below B3.out) G4.out).below B5.out) hl).mono ?_
  rintro e w6 ⟨rfl, b6⟩
  have B6 := Lib.hid b6
  clear b6
  go_wp2_with fail
  refine (heldPellPairS_any v1 L w1.heap.size _ ((O4.out.below B5.out).below B6.out) hl).mono ?_
  rintro e w_ ⟨rfl, rfl⟩
  go_wp2_with fail
  go_ret
  refine ⟨rfl, ?_⟩
  have S5 := B5.out.size
  have S6 := B6.out.size
  have c0 := (Below.refl w.heap.size w)
  have c1 := c0.trans (B1.out.mono (by omega))
  have c2 := c1.trans (B2.out.mono (by omega))
  have c3 := c2.trans (B3.out.mono (by omega))
  have c4 := markedL c3 (B := w1.heap.size) (by omega) (by omega) (O2.out.below B3.out) G4.out
  have c5 := c4.trans (B5.out.mono (by omega))
  have c6 := c5.trans (B6.out.mono (by omega))
  exact c6
/-- The class of a solution, and the code. -/
def coR (d n x y : Int) (L : List Pp) (c : Int) : Int × Int := if c = 0 then (if isS d n x y = true then (fnC d n x y L 0, 0) else (0, 1)) else (0, c)
theorem coR_bad {d n x y c : Int} {L : List Pp} (h : c ≠ 0) : coR d n x y L c = (0, c) := by unfold coR; rw [if_neg h]
theorem coR_no {d n x y : Int} {L : List Pp} (h : isS d n x y = false) : coR d n x y L 0 = (0, 1) := by unfold coR; rw [if_pos rfl, if_neg (by rw [h]; decide)]
theorem coR_yes {d n x y : Int} {L : List Pp} (h : isS d n x y = true) : coR d n x y L 0 = (fnC d n x y L 0, 0) := by unfold coR; rw [if_pos rfl, if_pos h]
theorem iCO_any (d n x y : Int) (L : List Pp) (c : Int) (w : World) (hl : L.length ≤ 1000000) (h0 : c = 0 → eqC d n = 0 ∧ PlA d L)
    (CS : ∀ w : World, Calls Try.prog 35 #[.int .i64 d, .int .i64 n] w (RetL 25 2 gP w L c)) :
    Calls Try.prog 33 #[.int .i64 d, .int .i64 n, .agg #[.int .i64 x, .int .i64 y]] w fun e w' => e = .returned (.tuple #[.int .i64 (coR d n x y L c).1, .int .i64 (coR d n x y L c).2]) ∧ Below w.heap.size w w' := by
  have CS' := Lib.hid CS
  clear CS
  by_cases hc : c = 0
  · subst hc
    obtain ⟨he, hP⟩ := h0 rfl
    obtain ⟨⟨hd, hn, hn0⟩, -⟩ := eqC_zero he
    clear h0
    cases hs : isS d n x y
    · have HF := Lib.hid (coR_no (L := L) hs)
      have IS := Lib.hid (by have h := isSolution_any d n x y · (by omega); rw [hs] at h; exact h)
      rw [HF.out]
      clear hs he hP
      go_enter Try.func33, Try.ntmps33
      go_wp2_with fail
      refine (CS'.out _).mono ?_
      intro e w1 hr
      unfold RetL at hr
      obtain ⟨v, rfl, o1, hb1⟩ := hr
      clear o1
      obtain ⟨hc1, hf1, -, hB1⟩ := bcell hb1; have hz1 := hb1.size; (try simp at hz1); (try have hk1_0 : w.heap.size < w1.heap.size := by omega); (try have hk1_1 : w.heap.size + 1 < w1.heap.size := by omega); (try have hk1_2 : w.heap.size + 1 + 1 < w1.heap.size := by omega); (try have hk1_3 : w.heap.size + 1 + 1 + 1 < w1.heap.size := by omega); (try have hk1_4 : wr.heap.size < w1.heap.size := by omega); (try have hk1_5 : wr.heap.size + 1 < w1.heap.size := by omega)
      go_wp2_with fail; refine (IS.out _).mono ?_; rintro e w2 ⟨rfl, hb2⟩; obtain ⟨hc2, hf2, -, hB2⟩ := bcell hb2; have hz2 := hb2.size; (try simp at hz2); (try have hk2_0 : w.heap.size < w2.heap.size := by omega); (try have hk2_1 : w.heap.size + 1 < w2.heap.size := by omega); (try have hk2_2 : w.heap.size + 1 + 1 < w2.heap.size := by omega); (try have hk2_3 : w.heap.size + 1 + 1 + 1 < w2.heap.size := by omega); (try have hk2_4 : wr.heap.size < w2.heap.size := by omega); (try have hk2_5 : wr.heap.size + 1 < w2.heap.size := by omega); (try have hk2_6 : w1.heap.size < w2.heap.size := by omega); (try have hk2_7 : w1.heap.size + 1 < w2.heap.size := by omega)
      go_wp2_with fail
      go_ret2
      exact ⟨rfl, (by repeat' (first | (with_reducible exact Below.refl _ _) | (with_reducible assumption) | (with_reducible refine Below.setCell ?_ ?_ _) | (with_reducible refine Below.alloc ?_ ?_ _) | (with_reducible refine Below.drew ?_) | (with_reducible refine below_drewN ?_ _) | (with_reducible refine Below.trans ?_ (Below.mono (by with_reducible assumption) ?_)) | go_size | (simp at *; omega)))⟩
    · have HF := Lib.hid (coR_yes (L := L) hs)
      have IS := Lib.hid (by have h := isSolution_any d n x y · (by omega); rw [hs] at h; exact h)
      have CO := Lib.hid (fun B v W h => classOf_any d n x y v L B W (by omega) hn0 h hl hP (isS_ok hs))
      rw [HF.out]
      generalize fnC d n x y L 0 = F at *
      clear hs he hP
      go_enter Try.func33, Try.ntmps33
      go_wp2_with fail
      refine (CS'.out _).mono ?_
      intro e w1 hr
      unfold RetL at hr
      obtain ⟨v, rfl, o1, hb1⟩ := hr
      have O1 := Lib.hid o1
      clear o1
      obtain ⟨hc1, hf1, -, hB1⟩ := bcell hb1; have hz1 := hb1.size; (try simp at hz1); (try have hk1_0 : w.heap.size < w1.heap.size := by omega); (try have hk1_1 : w.heap.size + 1 < w1.heap.size := by omega); (try have hk1_2 : w.heap.size + 1 + 1 < w1.heap.size := by omega); (try have hk1_3 : w.heap.size + 1 + 1 + 1 < w1.heap.size := by omega); (try have hk1_4 : wr.heap.size < w1.heap.size := by omega); (try have hk1_5 : wr.heap.size + 1 < w1.heap.size := by omega)
      go_wp2_with fail; refine (IS.out _).mono ?_; rintro e w2 ⟨rfl, hb2⟩; obtain ⟨hc2, hf2, -, hB2⟩ := bcell hb2; have hz2 := hb2.size; (try simp at hz2); (try have hk2_0 : w.heap.size < w2.heap.size := by omega); (try have hk2_1 : w.heap.size + 1 < w2.heap.size := by omega); (try have hk2_2 : w.heap.size + 1 + 1 < w2.heap.size := by omega); (try have hk2_3 : w.heap.size + 1 + 1 + 1 < w2.heap.size := by omega); (try have hk2_4 : wr.heap.size < w2.heap.size := by omega); (try have hk2_5 : wr.heap.size + 1 < w2.heap.size := by omega); (try have hk2_6 : w1.heap.size < w2.heap.size := by omega); (try have hk2_7 : w1.heap.size + 1 < w2.heap.size := by omega)
      go_wp2_with fail
      refine (CO.out _ _ _ (O1.out.below hb2)).mono ?_
      rintro e w3 ⟨rfl, hb3⟩
      obtain ⟨hc3, hf3, -, hB3⟩ := bcell hb3; have hz3 := hb3.size; (try simp at hz3); (try have hk3_0 : w.heap.size < w3.heap.size := by omega); (try have hk3_1 : w.heap.size + 1 < w3.heap.size := by omega); (try have hk3_2 : w.heap.size + 1 + 1 < w3.heap.size := by omega); (try have hk3_3 : w.heap.size + 1 + 1 + 1 < w3.heap.size := by omega); (try have hk3_4 : wr.heap.size < w3.heap.size := by omega); (try have hk3_5 : wr.heap.size + 1 < w3.heap.size := by omega); (try have hk3_6 : w1.heap.size < w3.heap.size := by omega); (try have hk3_7 : w1.heap.size + 1 < w3.heap.size := by omega); (try have hk3_8 : w2.heap.size < w3.heap.size := by omega); (try have hk3_9 : w2.heap.size + 1 < w3.heap.size := by omega)
      go_wp2_with fail
      go_ret2
      exact ⟨rfl, (by repeat' (first | (with_reducible exact Below.refl _ _) | (with_reducible assumption) | (with_reducible refine Below.setCell ?_ ?_ _) | (with_reducible refine Below.alloc ?_ ?_ _) | (with_reducible refine Below.drew ?_) | (with_reducible refine below_drewN ?_ _) | (with_reducible refine Below.trans ?_ (Below.mono (by with_reducible assumption) ?_)) | go_size | (simp at *; omega)))⟩
  · have HF := Lib.hid (coR_bad (d := d) (n := n) (x := x) (y := y) (L := L) hc)
    have hcb : (c != 0) = true := by simp [hc]
    rw [HF.out]
    clear h0
    go_enter Try.func33, Try.ntmps33
    go_wp2_with fail
    refine (CS'.out _).mono ?_
    intro e w1 hr
    unfold RetL at hr
    obtain ⟨v, rfl, o1, hb1⟩ := hr
    clear o1
    obtain ⟨hc1, hf1, -, hB1⟩ := bcell hb1; have hz1 := hb1.size; (try simp at hz1); (try have hk1_0 : w.heap.size < w1.heap.size := by omega); (try have hk1_1 : w.heap.size + 1 < w1.heap.size := by omega); (try have hk1_2 : w.heap.size + 1 + 1 < w1.heap.size := by omega); (try have hk1_3 : w.heap.size + 1 + 1 + 1 < w1.heap.size := by omega); (try have hk1_4 : wr.heap.size < w1.heap.size := by omega); (try have hk1_5 : wr.heap.size + 1 < w1.heap.size := by omega)
    go_wp2_with fail
    go_ret2
    exact ⟨rfl, (by repeat' (first | (with_reducible exact Below.refl _ _) | (with_reducible assumption) | (with_reducible refine Below.setCell ?_ ?_ _) | (with_reducible refine Below.alloc ?_ ?_ _) | (with_reducible refine Below.drew ?_) | (with_reducible refine below_drewN ?_ _) | (with_reducible refine Below.trans ?_ (Below.mono (by with_reducible assumption) ?_)) | go_size | (simp at *; omega)))⟩
theorem sCO_any (d n x y : Int) (L : List Pp) (c : Int) (w : World) (hl : L.length ≤ 1000000) (h0 : c = 0 → eqC d n = 0 ∧ PlA d L ∧ (∃ N : Int,
      (∀ w : World, Calls Try.prog 52 #[.int .i64 d, .int .i64 n] w fun e w' => e = .returned (.tuple #[.int .i64 N, .int .i64 0]) ∧ Below w.heap.size w w') ∧
      (∀ w : World, Calls Try.prog 61 #[.int .i64 d, .int .i64 n, .int .i64 N] w (RetL1 25 2 gP w L))))
    (h1 : c ≠ 0 → ∃ N : Int, ∀ w : World, Calls Try.prog 52 #[.int .i64 d, .int .i64 n] w fun e w' => e = .returned (.tuple #[.int .i64 N, .int .i64 c]) ∧ Below w.heap.size w w') :
    Calls Try.prog 32 #[.int .i64 d, .int .i64 n, .agg #[.int .i64 x, .int .i64 y]] w fun e w' => e = .returned (.tuple #[.int .i64 (coR d n x y L c).1, .int .i64 (coR d n x y L c).2]) ∧ Below w.heap.size w w' := by
  by_cases hc : c = 0
  · subst hc
    obtain ⟨he, hP, N, LK, CL⟩ := h0 rfl
    obtain ⟨⟨hd, hn, hn0⟩, -⟩ := eqC_zero he
    have LK' := Lib.hid LK
    have CL' := Lib.hid CL
    clear h0 h1 LK CL
    cases hs : isS d n x y
    · have HF := Lib.hid (coR_no (L := L) hs)
      have IS := Lib.hid (by have h := l10Is_any d n x y · (by omega); rw [hs] at h; exact h)
      rw [HF.out]
      clear hs he hP
      go_enter Try.func32, Try.ntmps32
      go_wp2_with fail; refine (LK'.out _).mono ?_; rintro e w1 ⟨rfl, hb1⟩; obtain ⟨hc1, hf1, -, hB1⟩ := bcell hb1; have hz1 := hb1.size; (try simp at hz1); (try have hk1_0 : w.heap.size < w1.heap.size := by omega); (try have hk1_1 : w.heap.size + 1 < w1.heap.size := by omega); (try have hk1_2 : w.heap.size + 1 + 1 < w1.heap.size := by omega); (try have hk1_3 : w.heap.size + 1 + 1 + 1 < w1.heap.size := by omega); (try have hk1_4 : wr.heap.size < w1.heap.size := by omega); (try have hk1_5 : wr.heap.size + 1 < w1.heap.size := by omega)
      go_wp2_with fail; refine (IS.out _).mono ?_; rintro e w2 ⟨rfl, hb2⟩; obtain ⟨hc2, hf2, -, hB2⟩ := bcell hb2; have hz2 := hb2.size; (try simp at hz2); (try have hk2_0 : w.heap.size < w2.heap.size := by omega); (try have hk2_1 : w.heap.size + 1 < w2.heap.size := by omega); (try have hk2_2 : w.heap.size + 1 + 1 < w2.heap.size := by omega); (try have hk2_3 : w.heap.size + 1 + 1 + 1 < w2.heap.size := by omega); (try have hk2_4 : wr.heap.size < w2.heap.size := by omega); (try have hk2_5 : wr.heap.size + 1 < w2.heap.size := by omega); (try have hk2_6 : w1.heap.size < w2.heap.size := by omega); (try have hk2_7 : w1.heap.size + 1 < w2.heap.size := by omega)
      go_wp2_with fail
      go_ret2
      exact ⟨rfl, (by repeat' (first | (with_reducible exact Below.refl _ _) | (with_reducible assumption) | (with_reducible refine Below.setCell ?_ ?_ _) | (with_reducible refine Below.alloc ?_ ?_ _) | (with_reducible refine Below.drew ?_) | (with_reducible refine below_drewN ?_ _) | (with_reducible refine Below.trans ?_ (Below.mono (by with_reducible assumption) ?_)) | go_size | (simp at *; omega)))⟩
    · have HF := Lib.hid (coR_yes (L := L) hs)
      have IS := Lib.hid (by have h := l10Is_any d n x y · (by omega); rw [hs] at h; exact h)
      have CO := Lib.hid (fun B v W h => l10Find_any d n x y v L B W (by omega) hn0 h hl hP (isS_ok hs))
      rw [HF.out]
      generalize fnC d n x y L 0 = F at *
      clear hs he hP
      go_enter Try.func32, Try.ntmps32
      go_wp2_with fail; refine (LK'.out _).mono ?_; rintro e w1 ⟨rfl, hb1⟩; obtain ⟨hc1, hf1, -, hB1⟩ := bcell hb1; have hz1 := hb1.size; (try simp at hz1); (try have hk1_0 : w.heap.size < w1.heap.size := by omega); (try have hk1_1 : w.heap.size + 1 < w1.heap.size := by omega); (try have hk1_2 : w.heap.size + 1 + 1 < w1.heap.size := by omega); (try have hk1_3 : w.heap.size + 1 + 1 + 1 < w1.heap.size := by omega); (try have hk1_4 : wr.heap.size < w1.heap.size := by omega); (try have hk1_5 : wr.heap.size + 1 < w1.heap.size := by omega)
      go_wp2_with fail; refine (IS.out _).mono ?_; rintro e w2 ⟨rfl, hb2⟩; obtain ⟨hc2, hf2, -, hB2⟩ := bcell hb2; have hz2 := hb2.size; (try simp at hz2); (try have hk2_0 : w.heap.size < w2.heap.size := by omega); (try have hk2_1 : w.heap.size + 1 < w2.heap.size := by omega); (try have hk2_2 : w.heap.size + 1 + 1 < w2.heap.size := by omega); (try have hk2_3 : w.heap.size + 1 + 1 + 1 < w2.heap.size := by omega); (try have hk2_4 : wr.heap.size < w2.heap.size := by omega); (try have hk2_5 : wr.heap.size + 1 < w2.heap.size := by omega); (try have hk2_6 : w1.heap.size < w2.heap.size := by omega); (try have hk2_7 : w1.heap.size + 1 < w2.heap.size := by omega)
      go_wp2_with fail
      have gB : heapAt w2 w.heap.size = some (.cells #[.int .i64 x, .int .i64 y] 25 (0, 0)) := (by simp (disch := (first | omega | (simp; done) | (simp; omega))) [*])
      have hbw : Below w.heap.size w w2 := (by repeat' (first | (with_reducible exact Below.refl _ _) | (with_reducible assumption) | (with_reducible refine Below.setCell ?_ ?_ _) | (with_reducible refine Below.alloc ?_ ?_ _) | (with_reducible refine Below.drew ?_) | (with_reducible refine below_drewN ?_ _) | (with_reducible refine Below.trans ?_ (Below.mono (by with_reducible assumption) ?_)) | go_size | (simp at *; omega)))
      clear hc1 hf1 hB1 hb1 hc2 hf2 hB2 hb2
      obtain ⟨zB, t1, t2, t3, t4⟩ := blk2 gB
      go_region_held3 (fun w' => Kept w2 w') (repeat (first | (with_reducible assumption) | (with_reducible exact kept_refl _) | (with_reducible exact kept_other (by with_reducible assumption) (by first | omega | (simp; done) | (simp; omega))) | (with_reducible refine kept_alloc ?_) | (with_reducible refine kept_drew ?_) | (with_reducible refine kept_set ?_ (by first | omega | (simp; done) | (simp; omega))) | (with_reducible refine kept_call ?_ hb1))) (first | (go_at_call 61; refine (CL'.out _).mono ?_; intro e w1 hr; unfold RetL1 at hr; obtain ⟨v1, rfl, o1, hb1⟩ := hr; obtain ⟨hc1, hf1, hl1, hB1⟩ := bcell hb1; (try simp only [World.size_drew, cell_drew, frozen_drew, heapAt_drew] at hc1 hf1 hl1 hB1); have hz1 := hb1.size; (try simp at hz1); (try have hkA := hl1 _ hkA); (try have hkA : _ < w1.heap.size := hz1); (try have hkW : w2.heap.size < w1.heap.size := by omega); (try have hk0 : w.heap.size < w1.heap.size := by omega); (try have hk1 : w.heap.size + 1 < w1.heap.size := by omega); (try have hk2 : w.heap.size + 1 + 1 < w1.heap.size := by omega)) | (go_at_call 60; refine (CO.out _ _ _ (by exact o1)).mono ?_; rintro e w1 ⟨rfl, hb1⟩; obtain ⟨hc1, hf1, hl1, hB1⟩ := bcell hb1; (try simp only [World.size_drew, cell_drew, frozen_drew, heapAt_drew] at hc1 hf1 hl1 hB1); have hz1 := hb1.size; (try simp at hz1); (try have hkA := hl1 _ hkA); (try have hkA : _ < w1.heap.size := hz1); (try have hkW : w2.heap.size < w1.heap.size := by omega); (try have hk0 : w.heap.size < w1.heap.size := by omega); (try have hk1 : w.heap.size + 1 < w1.heap.size := by omega); (try have hk2 : w.heap.size + 1 + 1 < w1.heap.size := by omega)))
      all_goals
        go_wp2_with fail
        go_ret2
        exact ⟨rfl, (by repeat' (first | (with_reducible exact Below.refl _ _) | (with_reducible assumption) | (with_reducible refine Below.setCell ?_ ?_ _) | (with_reducible refine Below.alloc ?_ ?_ _) | (with_reducible refine Below.drew ?_) | (with_reducible refine below_drewN ?_ _) | (with_reducible refine Below.trans ?_ (Below.mono (by with_reducible assumption) ?_)) | go_size | (simp at *; omega)))⟩
  · have HF := Lib.hid (coR_bad (d := d) (n := n) (x := x) (y := y) (L := L) hc)
    have hcb : (c != 0) = true := by simp [hc]
    obtain ⟨N, LK⟩ := h1 hc
    have LK' := Lib.hid LK
    rw [HF.out]
    clear h0 h1 LK
    go_enter Try.func32, Try.ntmps32
    go_wp2_with fail; refine (LK'.out _).mono ?_; rintro e w1 ⟨rfl, hb1⟩; obtain ⟨hc1, hf1, -, hB1⟩ := bcell hb1; have hz1 := hb1.size; (try simp at hz1); (try have hk1_0 : w.heap.size < w1.heap.size := by omega); (try have hk1_1 : w.heap.size + 1 < w1.heap.size := by omega); (try have hk1_2 : w.heap.size + 1 + 1 < w1.heap.size := by omega); (try have hk1_3 : w.heap.size + 1 + 1 + 1 < w1.heap.size := by omega); (try have hk1_4 : wr.heap.size < w1.heap.size := by omega); (try have hk1_5 : wr.heap.size + 1 < w1.heap.size := by omega)
    go_wp2_with fail
    go_ret2
    exact ⟨rfl, (by repeat' (first | (with_reducible exact Below.refl _ _) | (with_reducible assumption) | (with_reducible refine Below.setCell ?_ ?_ _) | (with_reducible refine Below.alloc ?_ ?_ _) | (with_reducible refine Below.drew ?_) | (with_reducible refine below_drewN ?_ _) | (with_reducible refine Below.trans ?_ (Below.mono (by with_reducible assumption) ?_)) | go_size | (simp at *; omega)))⟩
theorem walk_FnExactClassOf (d : Int) (wd : (Lit.int .i64 d).wf = true) (n : Int) (wn : (Lit.int .i64 n).wf = true) (x y : Int) (wx : (Lit.int .i64 x).wf = true) (wy : (Lit.int .i64 y).wf = true) (w : World) :
    Calls Try.prog 10 #[.int .i64 d, .int .i64 n, .agg #[.int .i64 x, .int .i64 y]] w fun e w' => e = .returned (.bool true) ∧ Below w.heap.size w w' := by
  obtain ⟨L, c, hl, h0, h1, CS⟩ := cs_all d n
  have HI := Lib.hid (fun w => iCO_any d n x y L c w hl (fun h => ⟨(h0 h).1, (h0 h).2.1⟩) CS)
  have HS := Lib.hid (fun w => sCO_any d n x y L c w hl h0 h1)
  generalize coR d n x y L c = R at *
  obtain ⟨r1, r2⟩ := R
  clear h0 h1 CS
  go_enter Try.func10, Try.ntmps10
  go_wp2_with fail; refine (toPellPair_any _ _ _).mono ?_; rintro e w1 ⟨rfl, hb1⟩; obtain ⟨hc1, hf1, -, hB1⟩ := bcell hb1; have hz1 := hb1.size; (try simp at hz1); (try have hk1_0 : w.heap.size < w1.heap.size := by omega); (try have hk1_1 : w.heap.size + 1 < w1.heap.size := by omega); (try have hk1_2 : w.heap.size + 1 + 1 < w1.heap.size := by omega); (try have hk1_3 : w.heap.size + 1 + 1 + 1 < w1.heap.size := by omega); (try have hk1_4 : wr.heap.size < w1.heap.size := by omega); (try have hk1_5 : wr.heap.size + 1 < w1.heap.size := by omega)
  go_wp2_with fail; refine (HS.out _).mono ?_; rintro e w2 ⟨rfl, hb2⟩; obtain ⟨hc2, hf2, -, hB2⟩ := bcell hb2; have hz2 := hb2.size; (try simp at hz2); (try have hk2_0 : w.heap.size < w2.heap.size := by omega); (try have hk2_1 : w.heap.size + 1 < w2.heap.size := by omega); (try have hk2_2 : w.heap.size + 1 + 1 < w2.heap.size := by omega); (try have hk2_3 : w.heap.size + 1 + 1 + 1 < w2.heap.size := by omega); (try have hk2_4 : wr.heap.size < w2.heap.size := by omega); (try have hk2_5 : wr.heap.size + 1 < w2.heap.size := by omega); (try have hk2_6 : w1.heap.size < w2.heap.size := by omega); (try have hk2_7 : w1.heap.size + 1 < w2.heap.size := by omega)
  go_wp2_with fail; refine (toPellPair_any _ _ _).mono ?_; rintro e w3 ⟨rfl, hb3⟩; obtain ⟨hc3, hf3, -, hB3⟩ := bcell hb3; have hz3 := hb3.size; (try simp at hz3); (try have hk3_0 : w.heap.size < w3.heap.size := by omega); (try have hk3_1 : w.heap.size + 1 < w3.heap.size := by omega); (try have hk3_2 : w.heap.size + 1 + 1 < w3.heap.size := by omega); (try have hk3_3 : w.heap.size + 1 + 1 + 1 < w3.heap.size := by omega); (try have hk3_4 : wr.heap.size < w3.heap.size := by omega); (try have hk3_5 : wr.heap.size + 1 < w3.heap.size := by omega); (try have hk3_6 : w1.heap.size < w3.heap.size := by omega); (try have hk3_7 : w1.heap.size + 1 < w3.heap.size := by omega); (try have hk3_8 : w2.heap.size < w3.heap.size := by omega); (try have hk3_9 : w2.heap.size + 1 < w3.heap.size := by omega)
  go_wp2_with fail; refine (HI.out _).mono ?_; rintro e w4 ⟨rfl, hb4⟩; obtain ⟨hc4, hf4, -, hB4⟩ := bcell hb4; have hz4 := hb4.size; (try simp at hz4); (try have hk4_0 : w.heap.size < w4.heap.size := by omega); (try have hk4_1 : w.heap.size + 1 < w4.heap.size := by omega); (try have hk4_2 : w.heap.size + 1 + 1 < w4.heap.size := by omega); (try have hk4_3 : w.heap.size + 1 + 1 + 1 < w4.heap.size := by omega); (try have hk4_4 : wr.heap.size < w4.heap.size := by omega); (try have hk4_5 : wr.heap.size + 1 < w4.heap.size := by omega); (try have hk4_6 : w1.heap.size < w4.heap.size := by omega); (try have hk4_7 : w1.heap.size + 1 < w4.heap.size := by omega); (try have hk4_8 : w2.heap.size < w4.heap.size := by omega); (try have hk4_9 : w2.heap.size + 1 < w4.heap.size := by omega); (try have hk4_10 : w3.heap.size < w4.heap.size := by omega); (try have hk4_11 : w3.heap.size + 1 < w4.heap.size := by omega)
  go_wp2_with fail
  go_ret
  exact ⟨rfl, (by repeat' (first | (with_reducible exact Below.refl _ _) | (with_reducible assumption) | (with_reducible refine Below.setCell ?_ ?_ _) | (with_reducible refine Below.alloc ?_ ?_ _) | (with_reducible refine Below.drew ?_) | (with_reducible refine below_drewN ?_ _) | (with_reducible refine Below.trans ?_ (Below.mono (by with_reducible assumption) ?_)) | go_size | (simp at *; omega)))⟩
end Go.Proofs.Ytdbbjmcfpfalhaa
