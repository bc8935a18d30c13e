/- Equations: the solutions up to a Y: the loops, and the law. -/
import Derived.Test.YtdbbjmcfpfalhaaDoorEqE
namespace Go.Proofs.YtdbbjmcfpfalhaaDoor
open Go.ChangeShapes Go.WideShapes Go.ChangeAt Go.RowKit
set_option linter.unusedVariables false
set_option maxHeartbeats 1000000
theorem suC_zero {d n most : Int} (h : suC d n most = 0) : (((2 ≤ d ∧ d ≤ 1000) ∧ (-1000 ≤ n ∧ n ≤ 1000) ∧ n ≠ 0) ∧ sqB d = false) ∧ (0 ≤ most ∧ most ≤ 10000) ∧ eqC d n = 0 := by
  unfold suC at h
  split at h
  · rename_i h1
    exact ⟨eqC_zero h, inR_iff.1 h1.2, h⟩
  · cases h
theorem suR_len (d n most : Int) : (suR d n most).length ≤ 1000000 := by
  unfold suR
  split
  · rename_i h
    obtain ⟨-, h2, -⟩ := suC_zero h
    have := su_len d n (most + 1).toNat
    omega
  · simp
theorem iSolutionsUpTo_any (d n most : Int) (w : World) :
    Calls Tryd.prog 9 #[.int .i64 d, .int .i64 n, .int .i64 most] w (RetL 32 2 gP w (suR d n most) (suC d n most)) := by
  cases hm : inR most 0 10000
  · have HC : Hid (suC d n most = 2) := Lib.hid (by simp [suC, hm])
    have HA : Hid (suR d n most = []) := Lib.hid (by unfold suR; rw [HC.out]; rfl)
    go_enter Tryd.func9, Tryd.ntmps9
    go_wp2_with (first | (go_at_call 23; refine (checkEquation_any _ _ _).mono ?_; rintro e w1 ⟨rfl, rfl⟩) | (go_at_call 30; refine (within_any _ _ _ _).mono ?_; rintro e w1 ⟨rfl, rfl⟩))
    all_goals
      go_ret2
      unfold RetL
      rw [HA.out, HC.out]
      exact ⟨_, rfl, Own.nil _ _ _ _ _, (by repeat' (first | (with_reducible exact Below.refl _ _) | (with_reducible assumption) | (with_reducible refine Below.setCell ?_ ?_ _) | (with_reducible refine Below.alloc ?_ ?_ _) | (with_reducible refine Below.drew ?_) | (with_reducible refine below_drewN ?_ _) | (with_reducible refine Below.trans ?_ (Below.mono (by with_reducible assumption) ?_)) | go_size | (simp at *; omega)))⟩
  · by_cases hc : eqC d n = 0
    · obtain ⟨⟨hd, hn, hn0⟩, -⟩ := eqC_zero hc
      have hmb := inR_iff.1 hm
      have HC : Hid (suC d n most = 0) := Lib.hid (by simp [suC, hm, hc])
      have HA : Hid (suF d n (most + 1).toNat = suR d n most) := Lib.hid (by unfold suR; rw [HC.out, if_pos rfl])
      generalize suR d n most = R at *
      have hcb : (eqC d n == 2) = false := by simp [hc]
      have hcn : (eqC d n != 0) = false := by simp [hc]
      obtain ⟨i0', hi, hz0, hz1, hz2⟩ := info_parts infoP
      have HI := Lib.hid (And.intro hi (And.intro hz0 (And.intro hz1 hz2)))
      clear hi hz0 hz1 hz2
      go_enter Tryd.func9, Tryd.ntmps9
      go_wp2_with (first | (go_at_call 23; refine (checkEquation_any _ _ _).mono ?_; rintro e w1 ⟨rfl, rfl⟩) | (go_at_call 30; refine (within_any _ _ _ _).mono ?_; rintro e w1 ⟨rfl, rfl⟩))
      clear hc hcb hcn hm
      go_loopg [9, 10] (most + 1).toNat (fun k v u wr => ∃ i : Nat, (i : Int) + k = most + 1 ∧ u = .int .i64 i ∧ Hid (OwnP wr w.heap.size v (suF d n i)) ∧ Below w.heap.size w wr)
      case atStart => exact ⟨0, by omega, rfl, Lib.hid (Own.nil w _ _ _ _), (by repeat' (first | (with_reducible exact Below.refl _ _) | (with_reducible assumption) | (with_reducible refine Below.setCell ?_ ?_ _) | (with_reducible refine Below.alloc ?_ ?_ _) | (with_reducible refine Below.drew ?_) | (with_reducible refine below_drewN ?_ _) | (with_reducible refine Below.trans ?_ (Below.mono (by with_reducible assumption) ?_)) | go_size | (simp at *; omega)))⟩
      case round =>
        obtain ⟨i, hik, rfl, HO, hbel⟩ := hrel
        have hsz := hbel.size
        have hlen := su_len d n i
        by_cases hlt : (i : Int) ≤ most
        · have hy : 0 ≤ (i : Int) ∧ (i : Int) ≤ 100000 := by omega
          cases hs : sqB (zX d n i)
          · have HS := Lib.hid hs
            go_wp2_with fail; refine (solutionAt_any _ _ _ _ hd hn hy).mono ?_; rintro e w1 ⟨rfl, hb1⟩; obtain ⟨hc1, hf1, -, hB1⟩ := bcell hb1; have hz1 := hb1.size; (try simp at hz1); (try have hk1_0 : w.heap.size < w1.heap.size := by omega); (try have hk1_1 : w.heap.size + 1 < w1.heap.size := by omega); (try have hk1_2 : w.heap.size + 1 + 1 < w1.heap.size := by omega); (try have hk1_3 : w.heap.size + 1 + 1 + 1 < w1.heap.size := by omega); (try have hk1_4 : wr.heap.size < w1.heap.size := by omega); (try have hk1_5 : wr.heap.size + 1 < w1.heap.size := by omega)
            go_wp2_with fail
            go_roundg (gk - 1)
            case measure => omega
            case rel => exact ⟨i + 1, by omega, by go_num, Lib.hid (by rw [su_no HS.out]; exact HO.out.below (by repeat' (first | (with_reducible exact Below.refl _ _) | (with_reducible assumption) | (with_reducible refine Below.setCell ?_ ?_ _) | (with_reducible refine Below.alloc ?_ ?_ _) | (with_reducible refine Below.drew ?_) | (with_reducible refine below_drewN ?_ _) | (with_reducible refine Below.trans ?_ (Below.mono (by with_reducible assumption) ?_)) | go_size | (simp at *; omega)))), (by repeat' (first | (with_reducible exact Below.refl _ _) | (with_reducible assumption) | (with_reducible refine Below.setCell ?_ ?_ _) | (with_reducible refine Below.alloc ?_ ?_ _) | (with_reducible refine Below.drew ?_) | (with_reducible refine below_drewN ?_ _) | (with_reducible refine Below.trans ?_ (Below.mono (by with_reducible assumption) ?_)) | go_size | (simp at *; omega)))⟩
          · have HS := Lib.hid hs
            have HP := Lib.hid (su_plain hd hn hy)
            have HF : Hid (solP d n i = ⟨rt (zX d n i), i⟩) := Lib.hid (by simp [solP, hs])
            have SA := solutionAt_any d n i wr hd hn hy
            rw [HF.out] at SA
            have PA := isPlainPair_any d (rt (zX d n i)) i
            rw [HP.out] at PA
            have HSA := Lib.hid SA
            have HPA := Lib.hid PA
            clear SA PA
            go_wp2_with fail; refine (HSA.out).mono ?_; rintro e w1 ⟨rfl, hb1⟩; obtain ⟨hc1, hf1, -, hB1⟩ := bcell hb1; have hz1 := hb1.size; (try simp at hz1); (try have hk1_0 : w.heap.size < w1.heap.size := by omega); (try have hk1_1 : w.heap.size + 1 < w1.heap.size := by omega); (try have hk1_2 : w.heap.size + 1 + 1 < w1.heap.size := by omega); (try have hk1_3 : w.heap.size + 1 + 1 + 1 < w1.heap.size := by omega); (try have hk1_4 : wr.heap.size < w1.heap.size := by omega); (try have hk1_5 : wr.heap.size + 1 < w1.heap.size := by omega)
            go_wp2_with fail; refine (HPA.out _ (by omega)).mono ?_; rintro e w2 ⟨rfl, hb2⟩; obtain ⟨hc2, hf2, -, hB2⟩ := bcell hb2; have hz2 := hb2.size; (try simp at hz2); (try have hk2_0 : w.heap.size < w2.heap.size := by omega); (try have hk2_1 : w.heap.size + 1 < w2.heap.size := by omega); (try have hk2_2 : w.heap.size + 1 + 1 < w2.heap.size := by omega); (try have hk2_3 : w.heap.size + 1 + 1 + 1 < w2.heap.size := by omega); (try have hk2_4 : wr.heap.size < w2.heap.size := by omega); (try have hk2_5 : wr.heap.size + 1 < w2.heap.size := by omega); (try have hk2_6 : w1.heap.size < w2.heap.size := by omega); (try have hk2_7 : w1.heap.size + 1 < w2.heap.size := by omega)
            have HO2 := Lib.hid (HO.out.below (w' := w2) (by repeat' (first | (with_reducible exact Below.refl _ _) | (with_reducible assumption) | (with_reducible refine Below.setCell ?_ ?_ _) | (with_reducible refine Below.alloc ?_ ?_ _) | (with_reducible refine Below.drew ?_) | (with_reducible refine below_drewN ?_ _) | (with_reducible refine Below.trans ?_ (Below.mono (by with_reducible assumption) ?_)) | go_size | (simp at *; omega))))
            have hbel2 : Below w.heap.size w w2 := (by repeat' (first | (with_reducible exact Below.refl _ _) | (with_reducible assumption) | (with_reducible refine Below.setCell ?_ ?_ _) | (with_reducible refine Below.alloc ?_ ?_ _) | (with_reducible refine Below.drew ?_) | (with_reducible refine below_drewN ?_ _) | (with_reducible refine Below.trans ?_ (Below.mono (by with_reducible assumption) ?_)) | go_size | (simp at *; omega)))
            have hsz2 := hbel2.size
            obtain ⟨hi, hz0, hz1, hz2⟩ := HI.out
            obtain ⟨L, hL⟩ : ∃ L, suF d n i = L := ⟨_, rfl⟩
            rw [hL] at HO2 hlen
            have HL := Lib.hid hL
            clear hL HO
            go_wp2_with (at_builtin; refine wpList_append_own _ rfl _ _ 28 rfl w.heap.size 32 i0' (.agg #[.int .i64 0, .int .i64 0]) 2 16 Tryd.underlying28 hi hz0 hz1 hz2 rfl (by decide) _ _ _ rfl (World.ownsRow.alloc HO2.out _) ⟨w2.heap.size, 0, none⟩ 1 1 [.int .i64 (rt (zX d n i)), .int .i64 i] rfl rfl ?c1 ?c2 ?c3 ?c4 ?c5 ?_)
            case c1 => exact newcs _ _ _ _ rfl
            case c2 => exact two_cells _ _
            case c3 => unfold maxLen; omega
            case c4 => omega
            case c5 => simp; omega
            intro v' w3 hown' hgrow hnn
            have HN3 := Lib.hid (appP (f := ⟨rt (zX d n i), (i : Int)⟩) hown')
            have hb3 : Below w.heap.size w w3 := Below.grown (Below.alloc hbel2 (by omega) _) hgrow (by simp; omega) (fun k hk => by have := (HO2.out.lt k hk).1; omega)
            clear hown' hgrow hnn hi hz0 hz1 hz2
            go_wp2
            go_roundg (gk - 1)
            case measure => omega
            case rel => exact ⟨i + 1, by omega, by go_num, Lib.hid (by rw [su_yes HS.out, HL.out]; exact HN3.out), hb3⟩
        · go_wp2
          go_ret2
          unfold RetL
          have e : i = (most + 1).toNat := by omega
          subst e
          rw [HC.out, ← HA.out]
          exact ⟨_, rfl, HO.out, hbel⟩
    · have HC : Hid (suC d n most = eqC d n) := Lib.hid (by
        unfold suC
        split
        · rfl
        · rename_i h
          by_cases h2 : eqC d n = 2
          · exact h2.symm
          · exact absurd ⟨h2, hm⟩ h)
      have HA : Hid (suR d n most = []) := Lib.hid (by unfold suR; rw [HC.out, if_neg hc])
      have hcn : (eqC d n != 0) = true := by simp [hc]
      by_cases h2 : eqC d n = 2
      · have h2b : (eqC d n == 2) = true := by simp [h2]
        have H2 := Lib.hid h2
        clear hc h2
        go_enter Tryd.func9, Tryd.ntmps9
        go_wp2_with (first | (go_at_call 23; refine (checkEquation_any _ _ _).mono ?_; rintro e w1 ⟨rfl, rfl⟩) | (go_at_call 30; refine (within_any _ _ _ _).mono ?_; rintro e w1 ⟨rfl, rfl⟩))
        go_ret2
        unfold RetL
        rw [HA.out, HC.out, H2.out]
        exact ⟨_, rfl, Own.nil _ _ _ _ _, (by repeat' (first | (with_reducible exact Below.refl _ _) | (with_reducible assumption) | (with_reducible refine Below.setCell ?_ ?_ _) | (with_reducible refine Below.alloc ?_ ?_ _) | (with_reducible refine Below.drew ?_) | (with_reducible refine below_drewN ?_ _) | (with_reducible refine Below.trans ?_ (Below.mono (by with_reducible assumption) ?_)) | go_size | (simp at *; omega)))⟩
      · have h2b : (eqC d n == 2) = false := by simp [h2]
        clear hc h2
        go_enter Tryd.func9, Tryd.ntmps9
        go_wp2_with (first | (go_at_call 23; refine (checkEquation_any _ _ _).mono ?_; rintro e w1 ⟨rfl, rfl⟩) | (go_at_call 30; refine (within_any _ _ _ _).mono ?_; rintro e w1 ⟨rfl, rfl⟩))
        go_ret2
        unfold RetL
        rw [HA.out, HC.out]
        exact ⟨_, rfl, Own.nil _ _ _ _ _, (by repeat' (first | (with_reducible exact Below.refl _ _) | (with_reducible assumption) | (with_reducible refine Below.setCell ?_ ?_ _) | (with_reducible refine Below.alloc ?_ ?_ _) | (with_reducible refine Below.drew ?_) | (with_reducible refine below_drewN ?_ _) | (with_reducible refine Below.trans ?_ (Below.mono (by with_reducible assumption) ?_)) | go_size | (simp at *; omega)))⟩
theorem sSolutionsUpTo_any (d n most : Int) (w : World) :
    Calls Tryd.prog 10 #[.int .i64 d, .int .i64 n, .int .i64 most] w (RetL 32 2 gP w (suR d n most) (suC d n most)) := by
  cases hm : inR most 0 10000
  · have HC : Hid (suC d n most = 2) := Lib.hid (by simp [suC, hm])
    have HA : Hid (suR d n most = []) := Lib.hid (by unfold suR; rw [HC.out]; rfl)
    go_enter Tryd.func10, Tryd.ntmps10
    go_wp2_with (first | (go_at_call 21; refine (l10Code_any _ _ _).mono ?_; rintro e w1 ⟨rfl, rfl⟩) | (go_at_call 33; refine (in_any _ _ _ _).mono ?_; rintro e w1 ⟨rfl, rfl⟩))
    all_goals
      go_ret2
      unfold RetL
      rw [HA.out, HC.out]
      exact ⟨_, rfl, Own.nil _ _ _ _ _, (by repeat' (first | (with_reducible exact Below.refl _ _) | (with_reducible assumption) | (with_reducible refine Below.setCell ?_ ?_ _) | (with_reducible refine Below.alloc ?_ ?_ _) | (with_reducible refine Below.drew ?_) | (with_reducible refine below_drewN ?_ _) | (with_reducible refine Below.trans ?_ (Below.mono (by with_reducible assumption) ?_)) | go_size | (simp at *; omega)))⟩
  · by_cases hc : eqC d n = 0
    · obtain ⟨⟨hd, hn, hn0⟩, -⟩ := eqC_zero hc
      have hmb := inR_iff.1 hm
      have HC : Hid (suC d n most = 0) := Lib.hid (by simp [suC, hm, hc])
      have HA : Hid (suF d n (most + 1).toNat = suR d n most) := Lib.hid (by unfold suR; rw [HC.out, if_pos rfl])
      generalize suR d n most = R at *
      have hcb : (eqC d n == 2) = false := by simp [hc]
      have hcn : (eqC d n != 0) = false := by simp [hc]
      obtain ⟨i0', hi, hz0, hz1, hz2⟩ := info_parts infoP
      have HI := Lib.hid (And.intro hi (And.intro hz0 (And.intro hz1 hz2)))
      clear hi hz0 hz1 hz2
      go_enter Tryd.func10, Tryd.ntmps10
      go_wp2_with (first | (go_at_call 21; refine (l10Code_any _ _ _).mono ?_; rintro e w1 ⟨rfl, rfl⟩) | (go_at_call 33; refine (in_any _ _ _ _).mono ?_; rintro e w1 ⟨rfl, rfl⟩))
      clear hc hcb hcn hm
      go_loopg [9, 10] (most + 1).toNat (fun k v u wr => ∃ i : Nat, (i : Int) + k = most + 1 ∧ u = .int .i64 i ∧ Hid (OwnP wr w.heap.size v (suF d n i)) ∧ Below w.heap.size w wr)
      case atStart => exact ⟨0, by omega, rfl, Lib.hid (Own.empty w _ _ _ _ (Nat.le_refl _)), (by repeat' (first | (with_reducible exact Below.refl _ _) | (with_reducible assumption) | (with_reducible refine Below.setCell ?_ ?_ _) | (with_reducible refine Below.alloc ?_ ?_ _) | (with_reducible refine Below.drew ?_) | (with_reducible refine below_drewN ?_ _) | (with_reducible refine Below.trans ?_ (Below.mono (by with_reducible assumption) ?_)) | go_size | (simp at *; omega)))⟩
      case round =>
        obtain ⟨i, hik, rfl, HO, hbel⟩ := hrel
        have hsz := hbel.size
        have hlen := su_len d n i
        by_cases hlt : (i : Int) ≤ most
        · have hy : 0 ≤ (i : Int) ∧ (i : Int) ≤ 100000 := by omega
          cases hs : sqB (zX d n i)
          · have HS := Lib.hid hs
            go_wp2_with (go_at_call 34; refine (l10X_any _ _ _ _ hd hn hy).mono ?_; rintro e w1 ⟨rfl, rfl⟩)
            go_roundg (gk - 1)
            case measure => omega
            case rel => exact ⟨i + 1, by omega, by go_num, Lib.hid (by rw [su_no HS.out]; exact HO.out), hbel⟩
          · have HS := Lib.hid hs
            obtain ⟨hi, hz0, hz1, hz2⟩ := HI.out
            obtain ⟨L, hL⟩ : ∃ L, suF d n i = L := ⟨_, rfl⟩
            rw [hL] at HO hlen
            have HL := Lib.hid hL
            clear hL
            go_wp2_with fail
            refine (l10X_any _ _ _ _ hd hn hy).mono ?_
            rintro e w_ ⟨rfl, rfl⟩
            go_wp2_with (at_builtin; refine wpList_append_own _ rfl _ _ 28 rfl w.heap.size 32 i0' (.agg #[.int .i64 0, .int .i64 0]) 2 16 Tryd.underlying28 hi hz0 hz1 hz2 rfl (by decide) _ _ _ rfl (World.ownsRow.alloc HO.out _) ⟨wr.heap.size, 0, none⟩ 1 1 [.int .i64 (rt (zX d n i)), .int .i64 i] rfl rfl ?c1 ?c2 ?c3 ?c4 ?c5 ?_)
            case c1 => exact newcs _ _ _ _ rfl
            case c2 => exact two_cells _ _
            case c3 => unfold maxLen; omega
            case c4 => omega
            case c5 => simp; omega
            intro v' w3 hown' hgrow hnn
            have HN3 := Lib.hid (appP (f := ⟨rt (zX d n i), (i : Int)⟩) hown')
            have hb3 : Below w.heap.size w w3 := Below.grown (Below.alloc hbel (by omega) _) hgrow (by simp; omega) (fun k hk => by have := (HO.out.lt k hk).1; omega)
            clear hown' hgrow hnn hi hz0 hz1 hz2
            go_wp2
            go_roundg (gk - 1)
            case measure => omega
            case rel => exact ⟨i + 1, by omega, by go_num, Lib.hid (by rw [su_yes HS.out, HL.out]; exact HN3.out), hb3⟩
        · go_wp2
          go_ret2
          unfold RetL
          have e : i = (most + 1).toNat := by omega
          subst e
          rw [HC.out, ← HA.out]
          exact ⟨_, rfl, HO.out, hbel⟩
    · have HC : Hid (suC d n most = eqC d n) := Lib.hid (by
        unfold suC
        split
        · rfl
        · rename_i h
          by_cases h2 : eqC d n = 2
          · exact h2.symm
          · exact absurd ⟨h2, hm⟩ h)
      have HA : Hid (suR d n most = []) := Lib.hid (by unfold suR; rw [HC.out, if_neg hc])
      have hcn : (eqC d n != 0) = true := by simp [hc]
      by_cases h2 : eqC d n = 2
      · have h2b : (eqC d n == 2) = true := by simp [h2]
        have H2 := Lib.hid h2
        clear hc h2
        go_enter Tryd.func10, Tryd.ntmps10
        go_wp2_with (first | (go_at_call 21; refine (l10Code_any _ _ _).mono ?_; rintro e w1 ⟨rfl, rfl⟩) | (go_at_call 33; refine (in_any _ _ _ _).mono ?_; rintro e w1 ⟨rfl, rfl⟩))
        go_ret2
        unfold RetL
        rw [HA.out, HC.out, H2.out]
        exact ⟨_, by rw [← H2.out]; rfl, Own.nil _ _ _ _ _, (by repeat' (first | (with_reducible exact Below.refl _ _) | (with_reducible assumption) | (with_reducible refine Below.setCell ?_ ?_ _) | (with_reducible refine Below.alloc ?_ ?_ _) | (with_reducible refine Below.drew ?_) | (with_reducible refine below_drewN ?_ _) | (with_reducible refine Below.trans ?_ (Below.mono (by with_reducible assumption) ?_)) | go_size | (simp at *; omega)))⟩
      · have h2b : (eqC d n == 2) = false := by simp [h2]
        clear hc h2
        go_enter Tryd.func10, Tryd.ntmps10
        go_wp2_with (first | (go_at_call 21; refine (l10Code_any _ _ _).mono ?_; rintro e w1 ⟨rfl, rfl⟩) | (go_at_call 33; refine (in_any _ _ _ _).mono ?_; rintro e w1 ⟨rfl, rfl⟩))
        go_ret2
        unfold RetL
        rw [HA.out, HC.out]
        exact ⟨_, rfl, Own.nil _ _ _ _ _, (by repeat' (first | (with_reducible exact Below.refl _ _) | (with_reducible assumption) | (with_reducible refine Below.setCell ?_ ?_ _) | (with_reducible refine Below.alloc ?_ ?_ _) | (with_reducible refine Below.drew ?_) | (with_reducible refine below_drewN ?_ _) | (with_reducible refine Below.trans ?_ (Below.mono (by with_reducible assumption) ?_)) | go_size | (simp at *; omega)))⟩
end Go.Proofs.YtdbbjmcfpfalhaaDoor
