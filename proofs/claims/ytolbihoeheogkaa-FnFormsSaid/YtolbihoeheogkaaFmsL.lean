/- Equivalent forms: the program, and the law. -/
import Derived.Test.YtolbihoeheogkaaFmsK
namespace Go.Proofs.Ytolbihoeheogkaa
open Go.ChangeShapes Go.WideShapes Go.ChangeAt Go.RowKit
set_option linter.unusedVariables false
set_option maxHeartbeats 1000000
theorem fc_zero {a b c : Int} (hv : vF a b c = true) (h : (fcR a b c).2 = 0) : (rdR a b c).2.2 = true ∧ ∃ L, cyR (rdR a b c).1 = some L ∧ (fcR a b c).1 = L := by
  cases hs : (rdR a b c).2.2
  · simp [fcR, hv, hs] at h
  · cases hc : cyR (rdR a b c).1 with
    | none => simp [fcR, hv, hs, hc, olF] at h
    | some L => exact ⟨rfl, L, rfl, by simp [fcR, hv, hs, hc, olF]⟩
theorem eqv_bad {a b c x y z : Int} (hv : vF a b c = true) (hu : vF x y z = true) (h : (fcR a b c).2 ≠ 0 ∨ (fcR x y z).2 ≠ 0) : eqvR a b c x y z = (false, 5) := by
  unfold eqvR
  rw [if_pos (by rw [hv, hu]; rfl)]
  split
  · rename_i hr
    simp only [Bool.and_eq_true] at hr
    rcases h1 : cyR (rdR a b c).1 with _ | L
    · rfl
    · rcases h2 : cyR (rdR x y z).1 with _ | M
      · rfl
      · exfalso
        rcases h with h | h
        · apply h; simp [fcR, hv, hr.1, h1, olF]
        · apply h; simp [fcR, hu, hr.2, h2, olF]
  · rfl
theorem iEquivalentForms_any (a b c x y z : Int) (w : World) :
    Calls Try.prog 36 #[.agg #[.int .i64 a, .int .i64 b, .int .i64 c], .agg #[.int .i64 x, .int .i64 y, .int .i64 z]] w fun e w' => e = .returned (.tuple #[.bool (eqvR a b c x y z).1, .int .i64 (eqvR a b c x y z).2]) ∧ Below w.heap.size w w' := by
  cases hv : vF a b c
  · have HF : Hid (eqvR a b c x y z = (false, 1)) := Lib.hid (by simp [eqvR, hv])
    go_enter Try.func36, Try.ntmps36
    go_wp2_with fail; refine (validForm_any _ _ _ _).mono ?_; rintro e w1 ⟨rfl, hb1⟩; obtain ⟨hc1, hf1, -, hB1⟩ := bcell hb1; have hz1 := hb1.size; (try simp at hz1); (try have hk1_0 : w.heap.size < w1.heap.size := by omega); (try have hk1_1 : w.heap.size + 1 < w1.heap.size := by omega); (try have hk1_2 : w.heap.size + 1 + 1 < w1.heap.size := by omega); (try have hk1_3 : w.heap.size + 1 + 1 + 1 < w1.heap.size := by omega); (try have hk1_4 : wr.heap.size < w1.heap.size := by omega); (try have hk1_5 : wr.heap.size + 1 < w1.heap.size := by omega)
    go_wp2_with fail
    go_ret2
    exact ⟨by rw [HF.out]; rfl, (by repeat' (first | (with_reducible exact Below.refl _ _) | (with_reducible assumption) | (with_reducible refine Below.setCell ?_ ?_ _) | (with_reducible refine Below.alloc ?_ ?_ _) | (with_reducible refine Below.drew ?_) | (with_reducible refine below_drewN ?_ _) | (with_reducible refine Below.trans ?_ (Below.mono (by with_reducible assumption) ?_)) | go_size | (simp at *; omega)))⟩
  · cases hu : vF x y z
    · have HF : Hid (eqvR a b c x y z = (false, 1)) := Lib.hid (by simp [eqvR, hv, hu])
      go_enter Try.func36, Try.ntmps36
      go_wp2_with fail; refine (validForm_any _ _ _ _).mono ?_; rintro e w1 ⟨rfl, hb1⟩; obtain ⟨hc1, hf1, -, hB1⟩ := bcell hb1; have hz1 := hb1.size; (try simp at hz1); (try have hk1_0 : w.heap.size < w1.heap.size := by omega); (try have hk1_1 : w.heap.size + 1 < w1.heap.size := by omega); (try have hk1_2 : w.heap.size + 1 + 1 < w1.heap.size := by omega); (try have hk1_3 : w.heap.size + 1 + 1 + 1 < w1.heap.size := by omega); (try have hk1_4 : wr.heap.size < w1.heap.size := by omega); (try have hk1_5 : wr.heap.size + 1 < w1.heap.size := by omega)
      go_wp2_with fail; refine (validForm_any _ _ _ _).mono ?_; rintro e w2 ⟨rfl, hb2⟩; obtain ⟨hc2, hf2, -, hB2⟩ := bcell hb2; have hz2 := hb2.size; (try simp at hz2); (try have hk2_0 : w.heap.size < w2.heap.size := by omega); (try have hk2_1 : w.heap.size + 1 < w2.heap.size := by omega); (try have hk2_2 : w.heap.size + 1 + 1 < w2.heap.size := by omega); (try have hk2_3 : w.heap.size + 1 + 1 + 1 < w2.heap.size := by omega); (try have hk2_4 : wr.heap.size < w2.heap.size := by omega); (try have hk2_5 : wr.heap.size + 1 < w2.heap.size := by omega); (try have hk2_6 : w1.heap.size < w2.heap.size := by omega); (try have hk2_7 : w1.heap.size + 1 < w2.heap.size := by omega)
      go_wp2_with fail
      go_ret2
      exact ⟨by rw [HF.out]; rfl, (by repeat' (first | (with_reducible exact Below.refl _ _) | (with_reducible assumption) | (with_reducible refine Below.setCell ?_ ?_ _) | (with_reducible refine Below.alloc ?_ ?_ _) | (with_reducible refine Below.drew ?_) | (with_reducible refine below_drewN ?_ _) | (with_reducible refine Below.trans ?_ (Below.mono (by with_reducible assumption) ?_)) | go_size | (simp at *; omega)))⟩
    · have HV := Lib.hid hv
      have HU := Lib.hid hu
      by_cases hA : (fcR a b c).2 = 0
      · by_cases hB : (fcR x y z).2 = 0
        · obtain ⟨h1, L, hL, eL⟩ := fc_zero hv hA
          obtain ⟨h2, M, hM, eM⟩ := fc_zero hu hB
          have HK1 := Lib.hid (rdR_keeps hv h1)
          have HK2 := Lib.hid (rdR_keeps hu h2)
          obtain ⟨f, hf⟩ : ∃ f, (rdR a b c).1 = f := ⟨_, rfl⟩
          obtain ⟨g, hg⟩ : ∃ g, (rdR x y z).1 = g := ⟨_, rfl⟩
          have HE : Hid (eqvR a b c x y z = (decide (0 ≤ fiF f M 0), 0)) := Lib.hid (by
            unfold eqvR
            rw [if_pos (by rw [hv, hu]; rfl), if_pos (by rw [h1, h2]; rfl), hL, hM, hf]
            rfl)
          rw [hf] at HK1 hL
          rw [hg] at HK2 hM
          have C1 := iFormCycle_any a b c
          have C2 := iFormCycle_any x y z
          rw [hA, eL] at C1
          rw [hB, eM] at C2
          have HC1 := Lib.hid C1
          have HC2 := Lib.hid C2
          have hMl := cyR_len hM
          have hhead := cyR_head hL
          have HD := Lib.hid (cyR_disc HK2.out.2.1 hM)
          have HH := Lib.hid hhead
          have HG := Lib.hid (cyR_head hM)
          obtain ⟨a1, b1, c1⟩ := vF_in hv
          obtain ⟨x1, y1, z1⟩ := vF_in hu
          clear C1 C2 hA hB eL eM hf hg h1 h2 hL hM hhead
          go_enter Try.func36, Try.ntmps36
          go_wp2_with fail; refine (validForm_any _ _ _ _).mono ?_; rintro e w1 ⟨rfl, hb1⟩; obtain ⟨hc1, hf1, -, hB1⟩ := bcell hb1; have hz1 := hb1.size; (try simp at hz1); (try have hk1_0 : w.heap.size < w1.heap.size := by omega); (try have hk1_1 : w.heap.size + 1 < w1.heap.size := by omega); (try have hk1_2 : w.heap.size + 1 + 1 < w1.heap.size := by omega); (try have hk1_3 : w.heap.size + 1 + 1 + 1 < w1.heap.size := by omega); (try have hk1_4 : wr.heap.size < w1.heap.size := by omega); (try have hk1_5 : wr.heap.size + 1 < w1.heap.size := by omega)
          go_wp2_with fail; refine (validForm_any _ _ _ _).mono ?_; rintro e w2 ⟨rfl, hb2⟩; obtain ⟨hc2, hf2, -, hB2⟩ := bcell hb2; have hz2 := hb2.size; (try simp at hz2); (try have hk2_0 : w.heap.size < w2.heap.size := by omega); (try have hk2_1 : w.heap.size + 1 < w2.heap.size := by omega); (try have hk2_2 : w.heap.size + 1 + 1 < w2.heap.size := by omega); (try have hk2_3 : w.heap.size + 1 + 1 + 1 < w2.heap.size := by omega); (try have hk2_4 : wr.heap.size < w2.heap.size := by omega); (try have hk2_5 : wr.heap.size + 1 < w2.heap.size := by omega); (try have hk2_6 : w1.heap.size < w2.heap.size := by omega); (try have hk2_7 : w1.heap.size + 1 < w2.heap.size := by omega)
          go_wp2_with fail
          refine (HC1.out _).mono ?_
          intro e w3 hr
          unfold RetFC at hr
          obtain ⟨v3, rfl, o3, hb3⟩ := hr
          have O3 := Lib.hid o3
          clear o3
          obtain ⟨hc3, hf3, -, hB3⟩ := bcell hb3; have hz3 := hb3.size; (try simp at hz3); (try have hk3_0 : w.heap.size < w3.heap.size := by omega); (try have hk3_1 : w.heap.size + 1 < w3.heap.size := by omega); (try have hk3_2 : w.heap.size + 1 + 1 < w3.heap.size := by omega); (try have hk3_3 : w.heap.size + 1 + 1 + 1 < w3.heap.size := by omega); (try have hk3_4 : wr.heap.size < w3.heap.size := by omega); (try have hk3_5 : wr.heap.size + 1 < w3.heap.size := by omega); (try have hk3_6 : w1.heap.size < w3.heap.size := by omega); (try have hk3_7 : w1.heap.size + 1 < w3.heap.size := by omega); (try have hk3_8 : w2.heap.size < w3.heap.size := by omega); (try have hk3_9 : w2.heap.size + 1 < w3.heap.size := by omega)
          go_wp2_with fail
          refine (HC2.out _).mono ?_
          intro e w4 hr
          unfold RetFC at hr
          obtain ⟨v4, rfl, o4, hb4⟩ := hr
          have O4 := Lib.hid o4
          have O34 := Lib.hid (O3.out.below hb4)
          clear o4
          obtain ⟨hc4, hf4, -, hB4⟩ := bcell hb4; have hz4 := hb4.size; (try simp at hz4); (try have hk4_0 : w.heap.size < w4.heap.size := by omega); (try have hk4_1 : w.heap.size + 1 < w4.heap.size := by omega); (try have hk4_2 : w.heap.size + 1 + 1 < w4.heap.size := by omega); (try have hk4_3 : w.heap.size + 1 + 1 + 1 < w4.heap.size := by omega); (try have hk4_4 : wr.heap.size < w4.heap.size := by omega); (try have hk4_5 : wr.heap.size + 1 < w4.heap.size := by omega); (try have hk4_6 : w1.heap.size < w4.heap.size := by omega); (try have hk4_7 : w1.heap.size + 1 < w4.heap.size := by omega); (try have hk4_8 : w2.heap.size < w4.heap.size := by omega); (try have hk4_9 : w2.heap.size + 1 < w4.heap.size := by omega); (try have hk4_10 : w3.heap.size < w4.heap.size := by omega); (try have hk4_11 : w3.heap.size + 1 < w4.heap.size := by omega)
          have hbel4 : Below w.heap.size w w4 := (by repeat' (first | (with_reducible exact Below.refl _ _) | (with_reducible assumption) | (with_reducible refine Below.setCell ?_ ?_ _) | (with_reducible refine Below.alloc ?_ ?_ _) | (with_reducible refine Below.drew ?_) | (with_reducible refine below_drewN ?_ _) | (with_reducible refine Below.trans ?_ (Below.mono (by with_reducible assumption) ?_)) | go_size | (simp at *; omega)))
          have hsz4 := hbel4.size
          have hx0 : heapAt w4 w.heap.size = some (.cells #[.int .i64 a, .int .i64 b, .int .i64 c] 25 (0, 0)) := (by simp (disch := (first | omega | (simp; done) | (simp; omega))) [*])
          have hy0 : heapAt w4 (w.heap.size + 1) = some (.cells #[.int .i64 x, .int .i64 y, .int .i64 z] 25 (0, 0)) := (by simp (disch := (first | omega | (simp; done) | (simp; omega))) [*])
          clear hb4 hc4 hf4 hB4 hb3 hc3 hf3 hB3 hb2 hc2 hf2 hB2 hb1 hc1 hf1 hB1
          obtain ⟨p0, p1, p2, p3, p4, p5, p6⟩ := blk3 hx0
          obtain ⟨q0, q1, q2, q3, q4, q5, q6⟩ := blk3 hy0
          by_cases hd : dF a b c = dF x y z
          · have hdb : (dF a b c != dF x y z) = false := by simp [hd]
            clear hd
            obtain ⟨g1, c3, hv3, hg1⟩ : ∃ g1 c3, v3 = .slice (some ⟨g1, 0, none⟩) L.length c3 ∧ g1 < w4.heap.size := by
              rcases O34.out.shape with ⟨h, _⟩ | ⟨_, g, cap, h, _, hl, _⟩
              · have := HH.out
                rw [h] at this
                simp at this
              · exact ⟨g, cap, h, hl⟩
            subst hv3
            have hL0 : 0 < L.length := (List.getElem?_eq_some_iff.1 HH.out).1
            have eL := (List.getElem?_eq_some_iff.1 HH.out).2
            have l0 : (0 : Int) < (L.length : Int) := by omega
            generalize hR : fiF f M 0 = R at HE
            have HR : Hid (fiF f (M.drop 0) 0 = R) := Lib.hid hR
            clear hR
            obtain ⟨g2, c4, hv4⟩ : ∃ g2 c4, v4 = .slice (some ⟨g2, 0, none⟩) M.length c4 := by
              rcases O4.out.shape with ⟨h, _⟩ | ⟨_, g, cap, h, _⟩
              · have := HG.out
                rw [h] at this
                simp at this
              · exact ⟨g, cap, h⟩
            subst hv4
            go_wp2_with fail
            go_region_held3 (fun w' => w'.cell? ⟨w.heap.size, 0, none⟩ = some (.int .i64 a) ∧ w'.cell? ⟨w.heap.size, 1, none⟩ = some (.int .i64 b) ∧ w'.cell? ⟨w.heap.size, 2, none⟩ = some (.int .i64 c) ∧ w'.cell? ⟨w.heap.size + 1, 0, none⟩ = some (.int .i64 x) ∧ w'.cell? ⟨w.heap.size + 1, 1, none⟩ = some (.int .i64 y) ∧ w'.cell? ⟨w.heap.size + 1, 2, none⟩ = some (.int .i64 z)) (first | exact ⟨p1, p2, p3, q1, q2, q3⟩ | (refine ⟨?_, ?_, ?_, ?_, ?_, ?_⟩ <;> (rw [hc1 _ _ (by first | omega | (simp; omega))]; first | assumption | exact p1 | exact p2 | exact p3 | exact q1 | exact q2 | exact q3 | (simp [*]; done)))) (first | (go_at_call 44; refine (disc_any _ _ _ _ (by assumption) (by assumption) (by assumption)).mono ?_; rintro e w1 ⟨rfl, hb1⟩; obtain ⟨hc1, hf1, hl1, hB1⟩ := bcell hb1; have hz1 := hb1.size; (try simp at hz1); (try have hk0 : w.heap.size < w1.heap.size := by omega); (try have hk1 : w.heap.size + 1 < w1.heap.size := by omega); (try have hk2 : w.heap.size + 1 + 1 < w1.heap.size := by omega)))
            go_wp2_with fail
            go_loopg [43] M.length (fun k u wr => ∃ i : Nat, u = .int .i64 i ∧ i + k = M.length ∧ Hid (fiF f (M.drop i) i = R) ∧ Below w4.heap.size w4 wr)
            case atStart => exact ⟨0, rfl, by omega, HR, (by repeat' (first | (with_reducible exact Below.refl _ _) | (with_reducible assumption) | (with_reducible refine Below.setCell ?_ ?_ _) | (with_reducible refine Below.alloc ?_ ?_ _) | (with_reducible refine Below.drew ?_) | (with_reducible refine below_drewN ?_ _) | (with_reducible refine Below.trans ?_ (Below.mono (by with_reducible assumption) ?_)) | go_size | (simp at *; omega)))⟩
            case round =>
              obtain ⟨i, rfl, hi, HI, hbel⟩ := hrel
              have hszr := hbel.size
              by_cases hlt : i < M.length
              · obtain ⟨m1, m2, m3⟩ := OwnF.cells (O4.out.below hbel) i hlt
                obtain ⟨r1, r2, r3⟩ := OwnF.cells (O34.out.below hbel) 0 hL0
                rw [eL] at r1 r2 r3
                simp only [Nat.zero_mul, Nat.zero_add] at r1 r2 r3
                have i0 : (0 : Int) ≤ (i : Int) := by omega
                have i1 : (i : Int) < (M.length : Int) := by omega
                have e1 := eqlF
                have e2 := guardF
                have hg1r : g1 < wr.heap.size := by omega
                cases he : eq6 M[i].a M[i].b M[i].c f.a f.b f.c
                · have HS : Hid (fiF f (M.drop (i + 1)) ((i + 1 : Nat) : Int) = R) := Lib.hid (by rw [← HI.out, fi_step hlt, if_neg (by unfold eqFm; rw [he]; simp)])
                  go_wp2
                  go_quiet (fail)
                  go_wp2
                  go_roundg (gk - 1)
                  case measure => omega
                  case rel => exact ⟨i + 1, by go_num, by omega, HS, (by repeat' (first | (with_reducible exact Below.refl _ _) | (with_reducible assumption) | (with_reducible refine Below.setCell ?_ ?_ _) | (with_reducible refine Below.alloc ?_ ?_ _) | (with_reducible refine Below.drew ?_) | (with_reducible refine below_drewN ?_ _) | (with_reducible refine Below.trans ?_ (Below.mono (by with_reducible assumption) ?_)) | go_size | (simp at *; omega)))⟩
                · have HS : Hid ((i : Int) = R) := Lib.hid (by rw [← HI.out, fi_step hlt, if_pos (by unfold eqFm; exact he)])
                  go_wp2
                  go_quiet (fail)
                  go_wp2
                  go_ret2
                  exact ⟨by rw [HE.out, ← HS.out]; simp, (by repeat' (first | (with_reducible exact Below.refl _ _) | (with_reducible assumption) | (with_reducible refine Below.setCell ?_ ?_ _) | (with_reducible refine Below.alloc ?_ ?_ _) | (with_reducible refine Below.drew ?_) | (with_reducible refine below_drewN ?_ _) | (with_reducible refine Below.trans ?_ (Below.mono (by with_reducible assumption) ?_)) | go_size | (simp at *; omega)))⟩
              · have e : M.drop i = [] := List.drop_eq_nil_of_le (by omega)
                have HS : Hid (-1 = R) := Lib.hid (by rw [← HI.out, e]; rfl)
                clear e
                go_wp2
                go_ret2
                exact ⟨by rw [HE.out, ← HS.out]; rfl, (by repeat' (first | (with_reducible exact Below.refl _ _) | (with_reducible assumption) | (with_reducible refine Below.setCell ?_ ?_ _) | (with_reducible refine Below.alloc ?_ ?_ _) | (with_reducible refine Below.drew ?_) | (with_reducible refine below_drewN ?_ _) | (with_reducible refine Below.trans ?_ (Below.mono (by with_reducible assumption) ?_)) | go_size | (simp at *; omega)))⟩
          · have hn : fiF f M 0 = -1 := by
              refine fi_no M 0 (fun q hq e => hd ?_)
              have e1 := HD.out q hq
              rw [e] at e1
              have e2 := HK1.out.1
              have e3 := HK2.out.1
              unfold dFm at e1
              omega
            have HE2 : Hid (eqvR a b c x y z = (false, 0)) := Lib.hid (by rw [HE.out, hn]; rfl)
            have hdb : (dF a b c != dF x y z) = true := by simp [hd]
            clear hn hd
            go_wp2_with fail
            go_region_held3 (fun w' => w'.cell? ⟨w.heap.size, 0, none⟩ = some (.int .i64 a) ∧ w'.cell? ⟨w.heap.size, 1, none⟩ = some (.int .i64 b) ∧ w'.cell? ⟨w.heap.size, 2, none⟩ = some (.int .i64 c) ∧ w'.cell? ⟨w.heap.size + 1, 0, none⟩ = some (.int .i64 x) ∧ w'.cell? ⟨w.heap.size + 1, 1, none⟩ = some (.int .i64 y) ∧ w'.cell? ⟨w.heap.size + 1, 2, none⟩ = some (.int .i64 z)) (first | exact ⟨p1, p2, p3, q1, q2, q3⟩ | (refine ⟨?_, ?_, ?_, ?_, ?_, ?_⟩ <;> (rw [hc1 _ _ (by first | omega | (simp; omega))]; first | assumption | exact p1 | exact p2 | exact p3 | exact q1 | exact q2 | exact q3 | (simp [*]; done)))) (first | (go_at_call 44; refine (disc_any _ _ _ _ (by assumption) (by assumption) (by assumption)).mono ?_; rintro e w1 ⟨rfl, hb1⟩; obtain ⟨hc1, hf1, hl1, hB1⟩ := bcell hb1; have hz1 := hb1.size; (try simp at hz1); (try have hk0 : w.heap.size < w1.heap.size := by omega); (try have hk1 : w.heap.size + 1 < w1.heap.size := by omega); (try have hk2 : w.heap.size + 1 + 1 < w1.heap.size := by omega)))
            all_goals
              go_wp2_with fail
              go_ret2
              exact ⟨by rw [HE2.out]; rfl, (by repeat' (first | (with_reducible exact Below.refl _ _) | (with_reducible assumption) | (with_reducible refine Below.setCell ?_ ?_ _) | (with_reducible refine Below.alloc ?_ ?_ _) | (with_reducible refine Below.drew ?_) | (with_reducible refine below_drewN ?_ _) | (with_reducible refine Below.trans ?_ (Below.mono (by with_reducible assumption) ?_)) | go_size | (simp at *; omega)))⟩
        · have HF : Hid (eqvR a b c x y z = (false, 5)) := Lib.hid (eqv_bad hv hu (.inr hB))
          have hB' : ((fcR x y z).2 != 0) = true := by simp [hB]
          clear hB
          go_enter Try.func36, Try.ntmps36
          go_wp2_with fail; refine (validForm_any _ _ _ _).mono ?_; rintro e w1 ⟨rfl, hb1⟩; obtain ⟨hc1, hf1, -, hB1⟩ := bcell hb1; have hz1 := hb1.size; (try simp at hz1); (try have hk1_0 : w.heap.size < w1.heap.size := by omega); (try have hk1_1 : w.heap.size + 1 < w1.heap.size := by omega); (try have hk1_2 : w.heap.size + 1 + 1 < w1.heap.size := by omega); (try have hk1_3 : w.heap.size + 1 + 1 + 1 < w1.heap.size := by omega); (try have hk1_4 : wr.heap.size < w1.heap.size := by omega); (try have hk1_5 : wr.heap.size + 1 < w1.heap.size := by omega)
          go_wp2_with fail; refine (validForm_any _ _ _ _).mono ?_; rintro e w2 ⟨rfl, hb2⟩; obtain ⟨hc2, hf2, -, hB2⟩ := bcell hb2; have hz2 := hb2.size; (try simp at hz2); (try have hk2_0 : w.heap.size < w2.heap.size := by omega); (try have hk2_1 : w.heap.size + 1 < w2.heap.size := by omega); (try have hk2_2 : w.heap.size + 1 + 1 < w2.heap.size := by omega); (try have hk2_3 : w.heap.size + 1 + 1 + 1 < w2.heap.size := by omega); (try have hk2_4 : wr.heap.size < w2.heap.size := by omega); (try have hk2_5 : wr.heap.size + 1 < w2.heap.size := by omega); (try have hk2_6 : w1.heap.size < w2.heap.size := by omega); (try have hk2_7 : w1.heap.size + 1 < w2.heap.size := by omega)
          go_wp2_with fail
          refine (iFormCycle_any a b c _).mono ?_
          intro e w3 hr
          unfold RetFC at hr
          obtain ⟨v3, rfl, -, hb3⟩ := hr
          obtain ⟨hc3, hf3, -, hB3⟩ := bcell hb3; have hz3 := hb3.size; (try simp at hz3); (try have hk3_0 : w.heap.size < w3.heap.size := by omega); (try have hk3_1 : w.heap.size + 1 < w3.heap.size := by omega); (try have hk3_2 : w.heap.size + 1 + 1 < w3.heap.size := by omega); (try have hk3_3 : w.heap.size + 1 + 1 + 1 < w3.heap.size := by omega); (try have hk3_4 : wr.heap.size < w3.heap.size := by omega); (try have hk3_5 : wr.heap.size + 1 < w3.heap.size := by omega); (try have hk3_6 : w1.heap.size < w3.heap.size := by omega); (try have hk3_7 : w1.heap.size + 1 < w3.heap.size := by omega); (try have hk3_8 : w2.heap.size < w3.heap.size := by omega); (try have hk3_9 : w2.heap.size + 1 < w3.heap.size := by omega)
          go_wp2_with fail
          refine (iFormCycle_any x y z _).mono ?_
          intro e w4 hr
          unfold RetFC at hr
          obtain ⟨v4, rfl, -, hb4⟩ := hr
          have hbel4 : Below w.heap.size w w4 := (by repeat' (first | (with_reducible exact Below.refl _ _) | (with_reducible assumption) | (with_reducible refine Below.setCell ?_ ?_ _) | (with_reducible refine Below.alloc ?_ ?_ _) | (with_reducible refine Below.drew ?_) | (with_reducible refine below_drewN ?_ _) | (with_reducible refine Below.trans ?_ (Below.mono (by with_reducible assumption) ?_)) | go_size | (simp at *; omega)))
          go_wp2_with fail
          go_ret2
          exact ⟨by rw [HF.out]; rfl, hbel4⟩
      · have HF : Hid (eqvR a b c x y z = (false, 5)) := Lib.hid (eqv_bad hv hu (.inl hA))
        have hA' : ((fcR a b c).2 != 0) = true := by simp [hA]
        clear hA
        go_enter Try.func36, Try.ntmps36
        go_wp2_with fail; refine (validForm_any _ _ _ _).mono ?_; rintro e w1 ⟨rfl, hb1⟩; obtain ⟨hc1, hf1, -, hB1⟩ := bcell hb1; have hz1 := hb1.size; (try simp at hz1); (try have hk1_0 : w.heap.size < w1.heap.size := by omega); (try have hk1_1 : w.heap.size + 1 < w1.heap.size := by omega); (try have hk1_2 : w.heap.size + 1 + 1 < w1.heap.size := by omega); (try have hk1_3 : w.heap.size + 1 + 1 + 1 < w1.heap.size := by omega); (try have hk1_4 : wr.heap.size < w1.heap.size := by omega); (try have hk1_5 : wr.heap.size + 1 < w1.heap.size := by omega)
        go_wp2_with fail; refine (validForm_any _ _ _ _).mono ?_; rintro e w2 ⟨rfl, hb2⟩; obtain ⟨hc2, hf2, -, hB2⟩ := bcell hb2; have hz2 := hb2.size; (try simp at hz2); (try have hk2_0 : w.heap.size < w2.heap.size := by omega); (try have hk2_1 : w.heap.size + 1 < w2.heap.size := by omega); (try have hk2_2 : w.heap.size + 1 + 1 < w2.heap.size := by omega); (try have hk2_3 : w.heap.size + 1 + 1 + 1 < w2.heap.size := by omega); (try have hk2_4 : wr.heap.size < w2.heap.size := by omega); (try have hk2_5 : wr.heap.size + 1 < w2.heap.size := by omega); (try have hk2_6 : w1.heap.size < w2.heap.size := by omega); (try have hk2_7 : w1.heap.size + 1 < w2.heap.size := by omega)
        go_wp2_with fail
        refine (iFormCycle_any a b c _).mono ?_
        intro e w3 hr
        unfold RetFC at hr
        obtain ⟨v3, rfl, -, hb3⟩ := hr
        obtain ⟨hc3, hf3, -, hB3⟩ := bcell hb3; have hz3 := hb3.size; (try simp at hz3); (try have hk3_0 : w.heap.size < w3.heap.size := by omega); (try have hk3_1 : w.heap.size + 1 < w3.heap.size := by omega); (try have hk3_2 : w.heap.size + 1 + 1 < w3.heap.size := by omega); (try have hk3_3 : w.heap.size + 1 + 1 + 1 < w3.heap.size := by omega); (try have hk3_4 : wr.heap.size < w3.heap.size := by omega); (try have hk3_5 : wr.heap.size + 1 < w3.heap.size := by omega); (try have hk3_6 : w1.heap.size < w3.heap.size := by omega); (try have hk3_7 : w1.heap.size + 1 < w3.heap.size := by omega); (try have hk3_8 : w2.heap.size < w3.heap.size := by omega); (try have hk3_9 : w2.heap.size + 1 < w3.heap.size := by omega)
        go_wp2_with fail
        refine (iFormCycle_any x y z _).mono ?_
        intro e w4 hr
        unfold RetFC at hr
        obtain ⟨v4, rfl, -, hb4⟩ := hr
        have hbel4 : Below w.heap.size w w4 := (by repeat' (first | (with_reducible exact Below.refl _ _) | (with_reducible assumption) | (with_reducible refine Below.setCell ?_ ?_ _) | (with_reducible refine Below.alloc ?_ ?_ _) | (with_reducible refine Below.drew ?_) | (with_reducible refine below_drewN ?_ _) | (with_reducible refine Below.trans ?_ (Below.mono (by with_reducible assumption) ?_)) | go_size | (simp at *; omega)))
        go_wp2_with fail
        go_ret2
        exact ⟨by rw [HF.out]; rfl, hbel4⟩
theorem walk_FnExactEquivalentForms (a b c : Int) (wa : (Lit.int .i64 a).wf = true) (wb : (Lit.int .i64 b).wf = true) (wc : (Lit.int .i64 c).wf = true) (x y z : Int) (wx : (Lit.int .i64 x).wf = true) (wy : (Lit.int .i64 y).wf = true) (wz : (Lit.int .i64 z).wf = true) (w : World) :
    Calls Try.prog 11 #[.agg #[.int .i64 a, .int .i64 b, .int .i64 c], .agg #[.int .i64 x, .int .i64 y, .int .i64 z]] w fun e' w' => e' = .returned (.bool true) ∧ Below w.heap.size w w' := by
  go_enter Try.func11, Try.ntmps11
  go_wp2_with fail
  have hx0 : heapAt ((w.alloc (.cells #[.int .i64 a, .int .i64 b, .int .i64 c] 23)).alloc (.cells #[.int .i64 x, .int .i64 y, .int .i64 z] 23)) w.heap.size = some (.cells #[.int .i64 a, .int .i64 b, .int .i64 c] 23 (0, 0)) := (by simp (disch := (first | omega | (simp; done) | (simp; omega))) [*])
  have hy0 : heapAt ((w.alloc (.cells #[.int .i64 a, .int .i64 b, .int .i64 c] 23)).alloc (.cells #[.int .i64 x, .int .i64 y, .int .i64 z] 23)) (w.heap.size + 1) = some (.cells #[.int .i64 x, .int .i64 y, .int .i64 z] 23 (0, 0)) := (by simp (disch := (first | omega | (simp; done) | (simp; omega))) [*])
  obtain ⟨p0, p1, p2, p3, p4, p5, p6⟩ := blk3 hx0
  obtain ⟨q0, q1, q2, q3, q4, q5, q6⟩ := blk3 hy0
  go_region_held3 (fun w' => w'.cell? ⟨w.heap.size, 0, none⟩ = some (.int .i64 a) ∧ w'.cell? ⟨w.heap.size, 1, none⟩ = some (.int .i64 b) ∧ w'.cell? ⟨w.heap.size, 2, none⟩ = some (.int .i64 c) ∧ w'.cell? ⟨w.heap.size + 1, 0, none⟩ = some (.int .i64 x) ∧ w'.cell? ⟨w.heap.size + 1, 1, none⟩ = some (.int .i64 y) ∧ w'.cell? ⟨w.heap.size + 1, 2, none⟩ = some (.int .i64 z)) (first | assumption | exact ⟨p1, p2, p3, q1, q2, q3⟩ | (refine ⟨?_, ?_, ?_, ?_, ?_, ?_⟩ <;> ((rw [hc1 _ _ (by first | omega | (simp; done) | (simp; omega))]) <;> first | assumption | exact p1 | exact p2 | exact p3 | exact q1 | exact q2 | exact q3 | (obtain ⟨_, _, _, _, _, _⟩ := ‹World.cell? _ _ = _ ∧ _ ∧ _ ∧ _ ∧ _ ∧ _›; assumption) | (simp [*]; done)))) (first | (go_at_call 15; refine (toForm_any _ _ _ _).mono ?_; rintro e w1 ⟨rfl, hb1⟩; obtain ⟨hc1, hf1, hl1, hB1⟩ := bcell hb1; have hz1 := hb1.size; (try simp at hz1); (try have hk0 : w.heap.size < w1.heap.size := by omega); (try have hk1 : w.heap.size + 1 < w1.heap.size := by omega); (try have hk2 : w.heap.size + 1 + 1 < w1.heap.size := by omega)) | (go_at_call 35; refine (sEquivalentForms_any _ _ _ _ _ _ _).mono ?_; rintro e w1 ⟨rfl, hb1⟩; obtain ⟨hc1, hf1, hl1, hB1⟩ := bcell hb1; have hz1 := hb1.size; (try simp at hz1); (try have hk0 : w.heap.size < w1.heap.size := by omega); (try have hk1 : w.heap.size + 1 < w1.heap.size := by omega); (try have hk2 : w.heap.size + 1 + 1 < w1.heap.size := by omega)))
  go_wp2_with fail
  have hx1 : heapAt w1 w.heap.size = some (.cells #[.int .i64 a, .int .i64 b, .int .i64 c] 23 (0, 0)) := (by simp (disch := (first | omega | (simp; done) | (simp; omega))) [*])
  have hy1 : heapAt w1 (w.heap.size + 1) = some (.cells #[.int .i64 x, .int .i64 y, .int .i64 z] 23 (0, 0)) := (by simp (disch := (first | omega | (simp; done) | (simp; omega))) [*])
  have hbel1 : Below w.heap.size w w1 := (by repeat' (first | (with_reducible exact Below.refl _ _) | (with_reducible assumption) | (with_reducible refine Below.setCell ?_ ?_ _) | (with_reducible refine Below.alloc ?_ ?_ _) | (with_reducible refine Below.drew ?_) | (with_reducible refine below_drewN ?_ _) | (with_reducible refine Below.trans ?_ (Below.mono (by with_reducible assumption) ?_)) | go_size | (simp at *; omega)))
  clear p0 p1 p2 p3 p4 p5 p6 q0 q1 q2 q3 q4 q5 q6
  obtain ⟨p0, p1, p2, p3, p4, p5, p6⟩ := blk3 hx1
  obtain ⟨q0, q1, q2, q3, q4, q5, q6⟩ := blk3 hy1
  go_region_held3 (fun w' => w'.cell? ⟨w.heap.size, 0, none⟩ = some (.int .i64 a) ∧ w'.cell? ⟨w.heap.size, 1, none⟩ = some (.int .i64 b) ∧ w'.cell? ⟨w.heap.size, 2, none⟩ = some (.int .i64 c) ∧ w'.cell? ⟨w.heap.size + 1, 0, none⟩ = some (.int .i64 x) ∧ w'.cell? ⟨w.heap.size + 1, 1, none⟩ = some (.int .i64 y) ∧ w'.cell? ⟨w.heap.size + 1, 2, none⟩ = some (.int .i64 z)) (first | assumption | exact ⟨p1, p2, p3, q1, q2, q3⟩ | (refine ⟨?_, ?_, ?_, ?_, ?_, ?_⟩ <;> ((rw [hc1 _ _ (by first | omega | (simp; done) | (simp; omega))]) <;> first | assumption | exact p1 | exact p2 | exact p3 | exact q1 | exact q2 | exact q3 | (obtain ⟨_, _, _, _, _, _⟩ := ‹World.cell? _ _ = _ ∧ _ ∧ _ ∧ _ ∧ _ ∧ _›; assumption) | (simp [*]; done)))) (first | (go_at_call 15; refine (toForm_any _ _ _ _).mono ?_; rintro e w1 ⟨rfl, hb1⟩; obtain ⟨hc1, hf1, hl1, hB1⟩ := bcell hb1; have hz1 := hb1.size; (try simp at hz1); (try have hk0 : w.heap.size < w1.heap.size := by omega); (try have hk1 : w.heap.size + 1 < w1.heap.size := by omega); (try have hk2 : w.heap.size + 1 + 1 < w1.heap.size := by omega)) | (go_at_call 36; refine (iEquivalentForms_any _ _ _ _ _ _ _).mono ?_; rintro e w1 ⟨rfl, hb1⟩; obtain ⟨hc1, hf1, hl1, hB1⟩ := bcell hb1; have hz1 := hb1.size; (try simp at hz1); (try have hk0 : w.heap.size < w1.heap.size := by omega); (try have hk1 : w.heap.size + 1 < w1.heap.size := by omega); (try have hk2 : w.heap.size + 1 + 1 < w1.heap.size := by omega)))
  go_wp2_with fail
  go_ret
  exact ⟨rfl, (by repeat' (first | (with_reducible exact Below.refl _ _) | (with_reducible assumption) | (with_reducible refine Below.setCell ?_ ?_ _) | (with_reducible refine Below.alloc ?_ ?_ _) | (with_reducible refine Below.drew ?_) | (with_reducible refine below_drewN ?_ _) | (with_reducible refine Below.trans ?_ (Below.mono (by with_reducible assumption) ?_)) | go_size | (simp at *; omega)))⟩
end Go.Proofs.Ytolbihoeheogkaa
