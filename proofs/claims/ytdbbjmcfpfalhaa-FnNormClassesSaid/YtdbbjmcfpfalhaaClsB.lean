/- The classes of solutions: both packages' lists, and the law. -/
import Derived.Test.YtdbbjmcfpfalhaaCls
import Derived.Test.YtdbbjmcfpfalhaaEqF
namespace Go.Proofs.Ytdbbjmcfpfalhaa
open Go.ChangeShapes Go.WideShapes Go.ChangeAt Go.RowKit
set_option linter.unusedVariables false
set_option maxHeartbeats 8000000
set_option maxRecDepth 20000
/-- A list behind j of the new pairs M. -/
def ajC (d n : Int) (L M : List Pp) (j : Nat) : List Pp := (M.take j).foldl (adC d n) L
theorem aj_step {d n : Int} {L M : List Pp} {j : Nat} (h : j < M.length) : ajC d n L M (j + 1) = adC d n (ajC d n L M j) (M[j]) := by
  unfold ajC
  rw [List.take_succ_eq_append_getElem h, List.foldl_append]
  rfl
theorem aj_pl {d n : Int} {L M : List Pp} (hL : PlA d L) (hM : PlA d M) : ∀ j, PlA d (ajC d n L M j)
  | 0 => hL
  | j + 1 => by
    by_cases h : j < M.length
    · rw [aj_step h]; exact adC_pl (aj_pl hL hM j) (hM.at j h)
    · have e : ajC d n L M (j + 1) = ajC d n L M j := by unfold ajC; rw [List.take_of_length_le (by omega), List.take_of_length_le (by omega)]
      rw [e]; exact aj_pl hL hM j
theorem aj_len (d n : Int) (L M : List Pp) : ∀ j, (ajC d n L M j).length ≤ L.length + j
  | 0 => Nat.le_refl _
  | j + 1 => by
    by_cases h : j < M.length
    · rw [aj_step h]; have := adC_len d n (ajC d n L M j) (M[j]); have := aj_len d n L M j; omega
    · have e : ajC d n L M (j + 1) = ajC d n L M j := by unfold ajC; rw [List.take_of_length_le (by omega), List.take_of_length_le (by omega)]
      rw [e]; have := aj_len d n L M j; omega
theorem pl_two {d x y u v : Int} (h1 : pOk d x y = true) (h2 : pOk d u v = true) : PlA d [⟨x, y⟩, ⟨u, v⟩] := by
  intro p hp
  simp at hp
  rcases hp with rfl | rfl
  · exact h1
  · exact h2
theorem blk_keep {w w' : World} {b k : Nat} {cs : Array Value} {t : TypeId} (h : heapAt w b = some (.cells cs t (0, 0))) (hb : Below k w w') (hk : b < k) : heapAt w' b = some (.cells cs t (0, 0)) := (hb.block b hk).trans h

theorem iCS_any (d n : Int) (N : Nat) (w : World) (hd : 2 ≤ d ∧ d ≤ 1000) (hn : -1000 ≤ n ∧ n ≤ 1000) (hn0 : n ≠ 0) (hN : N ≤ 100000)
    (LK : ∀ w : World, Calls Try.prog 26 #[.int .i64 d, .int .i64 n] w fun e w' => e = .returned (.tuple #[.int .i64 N, .int .i64 0]) ∧ Below w.heap.size w w') :
    Calls Try.prog 35 #[.int .i64 d, .int .i64 n] w (RetL 25 2 gP w (csF d n (N + 1)) 0) := by
  obtain ⟨R, hR⟩ : ∃ R, csF d n (N + 1) = R := ⟨_, rfl⟩
  rw [hR]
  have HF := Lib.hid hR
  have LK' := Lib.hid LK
  clear hR LK
  obtain ⟨i0', hi, hz0, hz1, hz2⟩ := info_parts infoP
  have HI := Lib.hid (And.intro hi (And.intro hz0 (And.intro hz1 hz2)))
  clear hi hz0 hz1 hz2
  go_enter Try.func35, Try.ntmps35
  go_wp2_with fail; refine (LK'.out _).mono ?_; rintro e w1 ⟨rfl, hb1⟩; obtain ⟨hc1, hf1, -, hB1⟩ := bcell hb1; have hz1 := hb1.size; (try simp at hz1); (try have hk1_0 : w.heap.size < w1.heap.size := by omega); (try have hk1_1 : w.heap.size + 1 < w1.heap.size := by omega); (try have hk1_2 : w.heap.size + 1 + 1 < w1.heap.size := by omega); (try have hk1_3 : w.heap.size + 1 + 1 + 1 < w1.heap.size := by omega); (try have hk1_4 : wr.heap.size < w1.heap.size := by omega); (try have hk1_5 : wr.heap.size + 1 < w1.heap.size := by omega)
  go_wp2_with fail
  go_loopg [8, 9] (N + 2) (fun k v0 u0 wr => ∃ i : Nat, u0 = .int .i64 i ∧ i + k = N + 2 ∧ i ≤ N + 1 ∧ Hid (OwnP wr w1.heap.size v0 (csF d n i)) ∧ Below w1.heap.size w1 wr)
  case atStart => exact ⟨0, rfl, by omega, by omega, Lib.hid (Own.nil _ _ _ _ _), (by repeat' (first | (with_reducible exact Below.refl _ _) | (with_reducible assumption) | (with_reducible refine Below.setCell ?_ ?_ _) | (with_reducible refine Below.alloc ?_ ?_ _) | (with_reducible refine Below.drew ?_) | (with_reducible refine below_drewN ?_ _) | (with_reducible refine Below.trans ?_ (Below.mono (by with_reducible assumption) ?_)) | go_size | (simp at *; omega)))⟩
  case round =>
    obtain ⟨i, rfl, hik, hin, HO, hbel⟩ := hrel
    have hzr := hbel.size
    by_cases hlt : i ≤ N
    · have i1 : (i : Int) ≤ (N : Int) := by omega
      have hy : 0 ≤ (i : Int) ∧ (i : Int) ≤ 100000 := by omega
      cases hs : sqB (zX d n i)
      · have SA := Lib.hid (by have h := solutionAt_any d n i · hd hn hy; rw [hs] at h; exact h)
        have HS := Lib.hid (cs_no hs)
        clear hs
        go_wp2_with fail; refine (SA.out _).mono ?_; rintro e w2 ⟨rfl, hb2⟩; obtain ⟨hc2, hf2, -, hB2⟩ := bcell hb2; have hz2 := hb2.size; (try simp at hz2); (try have hk2_0 : w.heap.size < w2.heap.size := by omega); (try have hk2_1 : w.heap.size + 1 < w2.heap.size := by omega); (try have hk2_2 : w.heap.size + 1 + 1 < w2.heap.size := by omega); (try have hk2_3 : w.heap.size + 1 + 1 + 1 < w2.heap.size := by omega); (try have hk2_4 : wr.heap.size < w2.heap.size := by omega); (try have hk2_5 : wr.heap.size + 1 < w2.heap.size := by omega); (try have hk2_6 : w1.heap.size < w2.heap.size := by omega); (try have hk2_7 : w1.heap.size + 1 < w2.heap.size := by omega)
        go_wp2_with fail
        have hz2 := hb2.size
        have hbel2 : Below w1.heap.size w1 w2 := hbel.trans (hb2.mono (by omega))
        go_roundg (gk - 1)
        case measure => omega
        case rel => exact ⟨i + 1, by go_num, by omega, by omega, Lib.hid (by rw [HS.out]; exact HO.out.below (by repeat' (first | (with_reducible exact Below.refl _ _) | (with_reducible assumption) | (with_reducible refine Below.setCell ?_ ?_ _) | (with_reducible refine Below.alloc ?_ ?_ _) | (with_reducible refine Below.drew ?_) | (with_reducible refine below_drewN ?_ _) | (with_reducible refine Below.trans ?_ (Below.mono (by with_reducible assumption) ?_)) | go_size | (simp at *; omega)))), (by repeat' (first | (with_reducible exact Below.refl _ _) | (with_reducible assumption) | (with_reducible refine Below.setCell ?_ ?_ _) | (with_reducible refine Below.alloc ?_ ?_ _) | (with_reducible refine Below.drew ?_) | (with_reducible refine below_drewN ?_ _) | (with_reducible refine Below.trans ?_ (Below.mono (by with_reducible assumption) ?_)) | go_size | (simp at *; omega)))⟩
      · have SA := Lib.hid (by have h := solutionAt_any d n i · hd hn hy; rw [hs, solP_yes hs] at h; exact h)
        have HS := Lib.hid (cs_yes hs)
        have hp := su_plain hd hn hy
        have HM := Lib.hid (pl_two hp (pOk_neg hp))
        have HPL := Lib.hid (cs_pl hd hn i (by omega))
        have hlen := cs_len d n i
        have hX : -1000000000 ≤ rt (zX d n i) ∧ rt (zX d n i) ≤ 1000000000 := (pOk_iff.1 hp).1
        generalize rt (zX d n i) = X at *
        obtain ⟨L, hL⟩ : ∃ L, csF d n i = L := ⟨_, rfl⟩
        rw [hL] at HS HO HPL hlen
        clear hs hL hp
        go_wp2_with fail; refine (SA.out _).mono ?_; rintro e w2 ⟨rfl, hb2⟩; obtain ⟨hc2, hf2, -, hB2⟩ := bcell hb2; have hz2 := hb2.size; (try simp at hz2); (try have hk2_0 : w.heap.size < w2.heap.size := by omega); (try have hk2_1 : w.heap.size + 1 < w2.heap.size := by omega); (try have hk2_2 : w.heap.size + 1 + 1 < w2.heap.size := by omega); (try have hk2_3 : w.heap.size + 1 + 1 + 1 < w2.heap.size := by omega); (try have hk2_4 : wr.heap.size < w2.heap.size := by omega); (try have hk2_5 : wr.heap.size + 1 < w2.heap.size := by omega); (try have hk2_6 : w1.heap.size < w2.heap.size := by omega); (try have hk2_7 : w1.heap.size + 1 < w2.heap.size := by omega)
        go_wp2_with fail
        obtain ⟨V, hV⟩ : ∃ V, V = (w2.alloc (.cells #[.int .i64 X, .int .i64 i] 25)).alloc (.cells #[.int .i64 X, .int .i64 i, .int .i64 (-X), .int .i64 i] 25) := ⟨_, rfl⟩
        have gA : heapAt V (w2.heap.size + 1) = some (.cells #[.int .i64 X, .int .i64 i, .int .i64 (-X), .int .i64 i] 25 (0, 0)) := by rw [hV]; exact heapAt_new2 _ _ _
        have hz2 := hb2.size
        have hbV : Below w2.heap.size w2 V := by rw [hV]; exact (by repeat' (first | (with_reducible exact Below.refl _ _) | (with_reducible assumption) | (with_reducible refine Below.setCell ?_ ?_ _) | (with_reducible refine Below.alloc ?_ ?_ _) | (with_reducible refine Below.drew ?_) | (with_reducible refine below_drewN ?_ _) | (with_reducible refine Below.trans ?_ (Below.mono (by with_reducible assumption) ?_)) | go_size | (simp at *; omega)))
        have hzV : V.heap.size = w2.heap.size + 2 := by rw [hV]; simp
        have hb1V : Below w1.heap.size w1 V := (hbel.trans (hb2.mono (by omega))).trans (hbV.mono (by omega))
        have HOV := Lib.hid ((HO.out.below hb2).below hbV)
        rw [← hV]
        clear hV
        have hne0 : ∀ b, Value.ownBlock u8 = some b → b < w2.heap.size := fun b hb => by have := (HO.out.lt b hb).2; omega
        go_loopg [8, 45] 3 (fun k v1 u1 wx => ∃ j : Nat, u1 = .int .i64 j ∧ j + k = 3 ∧ j ≤ 2 ∧ Hid (OwnP wx w1.heap.size v1 (ajC d n L [⟨X, i⟩, ⟨-X, i⟩] j)) ∧ Below w1.heap.size w1 wx ∧ V.heap.size ≤ wx.heap.size ∧ (j = 0 → v1.ownBlock ≠ some (w2.heap.size + 1)) ∧ (j ≤ 1 → heapAt wx (w2.heap.size + 1) = some (.cells #[.int .i64 X, .int .i64 i, .int .i64 (-X), .int .i64 i] 25 (0, 0))))
        case atStart => exact ⟨0, rfl, by omega, by omega, HOV, hb1V, Nat.le_refl _, fun _ e => by have := hne0 _ e; omega, fun _ => gA⟩
        case round =>
          obtain ⟨j, rfl, hjk, hjn, HJ, hbx, hzx, hj0, hj1⟩ := hrel
          by_cases hjl : j < 2
          · have hA := hj1 (by omega)
            obtain ⟨c0, c1⟩ := OwnP.cells (hpP2 hA) j (by simpa using hjl)
            have hpj := HM.out.at j (by simpa using hjl)
            have HST := Lib.hid (aj_step (d := d) (n := n) (L := L) (M := [⟨X, i⟩, ⟨-X, i⟩]) (j := j) (by simpa using hjl))
            have hlj := aj_len d n L [⟨X, i⟩, ⟨-X, i⟩] j
            have HPJ := Lib.hid (aj_pl (n := n) HPL.out HM.out j)
            obtain ⟨Ln, hLn⟩ : ∃ Ln, ajC d n L [⟨X, i⟩, ⟨-X, i⟩] (j + 1) = Ln := ⟨_, rfl⟩
            rw [hLn] at HST
            have HLN := Lib.hid hLn
            clear hLn
            generalize ajC d n L [⟨X, i⟩, ⟨-X, i⟩] j = Lj at *
            generalize ([⟨X, i⟩, ⟨-X, i⟩] : List Pp)[j] = pj at *
            obtain ⟨a, b⟩ := pj
            have i2 : (0 : Int) ≤ (j : Int) := by omega
            have i3 : (j : Int) < 2 := by omega
            have hzA := blk_lt hA
            have CF := Lib.hid (fun v w h => classOf_any d n a b v Lj w1.heap.size w (by omega) hn0 h (by omega) HPJ.out hpj)
            have HF1 : Hid (fnC d n a b Lj 0 < 0 → Ln = Lj ++ [⟨a, b⟩]) := Lib.hid (fun h => by rw [HST.out]; exact adC_yes h)
            have HF2 : Hid (¬ fnC d n a b Lj 0 < 0 → Ln = Lj) := Lib.hid (fun h => by rw [HST.out]; exact adC_no h)
            generalize fnC d n a b Lj 0 = F at *
            clear HST hpj
            by_cases hf : F < 0
            · have HLn := Lib.hid (HF1.out hf)
              clear HF1 HF2
              go_wp2_with fail
              refine (CF.out _ _ (World.ownsRow.alloc HJ.out _)).mono ?_
              rintro e w4 ⟨rfl, hb4⟩
              obtain ⟨hc4, hf4, -, hB4⟩ := bcell hb4; have hz4 := hb4.size; (try simp at hz4); (try have hk4_0 : w.heap.size < w4.heap.size := by omega); (try have hk4_1 : w.heap.size + 1 < w4.heap.size := by omega); (try have hk4_2 : w.heap.size + 1 + 1 < w4.heap.size := by omega); (try have hk4_3 : w.heap.size + 1 + 1 + 1 < w4.heap.size := by omega); (try have hk4_4 : wr.heap.size < w4.heap.size := by omega); (try have hk4_5 : wr.heap.size + 1 < w4.heap.size := by omega); (try have hk4_6 : w1.heap.size < w4.heap.size := by omega); (try have hk4_7 : w1.heap.size + 1 < w4.heap.size := by omega); (try have hk4_8 : w2.heap.size < w4.heap.size := by omega); (try have hk4_9 : w2.heap.size + 1 < w4.heap.size := by omega); (try have hk4_10 : w3.heap.size < w4.heap.size := by omega); (try have hk4_11 : w3.heap.size + 1 < w4.heap.size := by omega)
              have hsz4 := hb4.size
              simp at hsz4
              have gT : heapAt w4 wr.heap.size = some (.cells #[.int .i64 a, .int .i64 b] 25 (0, 0)) := (hb4.block _ (by simp)).trans (heapAt_new wr _)
              have hA4 := blk_keep (blk_keep hA (Below.alloc (Below.refl wr.heap.size wr) (Nat.le_refl _) (.cells #[.int .i64 a, .int .i64 b] 25)) hzA) hb4 (by simp; omega)
              have HO4 := Lib.hid ((allocL HJ.out (.cells #[.int .i64 a, .int .i64 b] 25)).below hb4)
              have hbx4 : Below w1.heap.size w1 w4 := (Below.alloc hbx (by omega) _).trans (hb4.mono (by simp; omega))
              obtain ⟨zT, t1, t2, t3, t4⟩ := blk2 gT
              obtain ⟨hi, hz0, hz1, hz2⟩ := HI.out
              have hlt4 : ∀ b, Value.ownBlock u8 = some b → b < wr.heap.size := fun b hb => (HJ.out.lt b hb).2
              clear hc4 hf4 hB4
              go_wp2_with (at_builtin; refine wpList_append_own _ rfl _ _ 34 rfl w1.heap.size 25 i0' (.agg #[.int .i64 0, .int .i64 0]) 2 16 Try.underlying34 hi hz0 hz1 hz2 rfl (by decide) _ _ _ rfl (World.ownsRow.alloc HO4.out _) ⟨w4.heap.size, 0, none⟩ 1 1 [.int .i64 a, .int .i64 b] rfl rfl ?c1 ?c2 ?c3 ?c4 ?c5 ?_)
              case c1 => exact newcs _ _ _ _ rfl
              case c2 => exact two_cells _ _
              case c3 => unfold maxLen; omega
              case c4 => omega
              case c5 => simp; omega
              intro v' w5 hown' hgrow hnn
              have HN5 := Lib.hid (appP (f := ⟨a, b⟩) hown')
              have hb5 : Below w1.heap.size w1 w5 := Below.grown (Below.alloc hbx4 (by omega) _) hgrow (by simp; omega) (fun k hk => by have := (HO4.out.lt k hk).1; omega)
              have hz5 := hgrow.size
              simp at hz5
              have hA5 : j = 0 → heapAt w5 (w2.heap.size + 1) = some (.cells #[.int .i64 X, .int .i64 i, .int .i64 (-X), .int .i64 i] 25 (0, 0)) := fun h => (grown_atL hgrow (hj0 h) (by simp; omega)).trans ((heapAt_old (by omega)).trans hA4)
              clear hown' hgrow hnn hi hz0 hz1 hz2
              go_wp2
              go_roundg (gk - 1)
              case measure => omega
              case rel => exact ⟨j + 1, by go_num, by omega, by omega, Lib.hid (by rw [HLN.out, HLn.out]; exact HN5.out), hb5, by omega, fun h => by omega, fun h => hA5 (by omega)⟩
            · have HLn := Lib.hid (HF2.out hf)
              clear HF1 HF2
              go_wp2_with fail
              refine (CF.out _ _ (World.ownsRow.alloc HJ.out _)).mono ?_
              rintro e w4 ⟨rfl, hb4⟩
              obtain ⟨hc4, hf4, -, hB4⟩ := bcell hb4; have hz4 := hb4.size; (try simp at hz4); (try have hk4_0 : w.heap.size < w4.heap.size := by omega); (try have hk4_1 : w.heap.size + 1 < w4.heap.size := by omega); (try have hk4_2 : w.heap.size + 1 + 1 < w4.heap.size := by omega); (try have hk4_3 : w.heap.size + 1 + 1 + 1 < w4.heap.size := by omega); (try have hk4_4 : wr.heap.size < w4.heap.size := by omega); (try have hk4_5 : wr.heap.size + 1 < w4.heap.size := by omega); (try have hk4_6 : w1.heap.size < w4.heap.size := by omega); (try have hk4_7 : w1.heap.size + 1 < w4.heap.size := by omega); (try have hk4_8 : w2.heap.size < w4.heap.size := by omega); (try have hk4_9 : w2.heap.size + 1 < w4.heap.size := by omega); (try have hk4_10 : w3.heap.size < w4.heap.size := by omega); (try have hk4_11 : w3.heap.size + 1 < w4.heap.size := by omega)
              have hsz4 := hb4.size
              simp at hsz4
              have hA4 := blk_keep (blk_keep hA (Below.alloc (Below.refl wr.heap.size wr) (Nat.le_refl _) (.cells #[.int .i64 a, .int .i64 b] 25)) hzA) hb4 (by simp; omega)
              have HO4 := Lib.hid ((allocL HJ.out (.cells #[.int .i64 a, .int .i64 b] 25)).below hb4)
              have hbx4 : Below w1.heap.size w1 w4 := (Below.alloc hbx (by omega) _).trans (hb4.mono (by simp; omega))
              go_wp2
              go_roundg (gk - 1)
              case measure => omega
              case rel => exact ⟨j + 1, by go_num, by omega, by omega, Lib.hid (by rw [HLN.out, HLn.out]; exact HO4.out), hbx4, by omega, fun h => by omega, fun h => hA4⟩
          · have i3 : ¬ (j : Int) < 2 := by omega
            have e : j = 2 := by omega
            subst e
            go_wp2_with fail
            go_roundg (N + 1 - i)
            case measure => omega
            case rel => exact ⟨i + 1, by go_num, by omega, by omega, Lib.hid (by rw [HS.out]; exact HJ.out), hbx⟩
    · have i1 : ¬ (i : Int) ≤ (N : Int) := by omega
      have e : i = N + 1 := by omega
      subst e
      go_wp2_with fail
      go_ret2
      unfold RetL
      rw [← HF.out]
      exact ⟨_, rfl, HO.out.mono hz1, (by repeat' (first | (with_reducible exact Below.refl _ _) | (with_reducible assumption) | (with_reducible refine Below.setCell ?_ ?_ _) | (with_reducible refine Below.alloc ?_ ?_ _) | (with_reducible refine Below.drew ?_) | (with_reducible refine below_drewN ?_ _) | (with_reducible refine Below.trans ?_ (Below.mono (by with_reducible assumption) ?_)) | go_size | (simp at *; omega)))⟩
theorem l10Classes_any (d n : Int) (N : Nat) (w : World) (hd : 2 ≤ d ∧ d ≤ 1000) (hn : -1000 ≤ n ∧ n ≤ 1000) (hn0 : n ≠ 0) (hN : N ≤ 100000) :
    Calls Try.prog 61 #[.int .i64 d, .int .i64 n, .int .i64 N] w (RetL1 25 2 gP w (csF d n (N + 1))) := by
  obtain ⟨R, hR⟩ : ∃ R, csF d n (N + 1) = R := ⟨_, rfl⟩
  rw [hR]
  have HF := Lib.hid hR
  clear hR
  obtain ⟨i0', hi, hz0, hz1, hz2⟩ := info_parts infoP
  have HI := Lib.hid (And.intro hi (And.intro hz0 (And.intro hz1 hz2)))
  clear hi hz0 hz1 hz2
  go_enter Try.func61, Try.ntmps61
  go_wp2_with fail
  go_loopg [7, 8] (N + 2) (fun k v0 u0 wr => ∃ i : Nat, u0 = .int .i64 i ∧ i + k = N + 2 ∧ i ≤ N + 1 ∧ Hid (OwnP wr w.heap.size v0 (csF d n i)) ∧ Below w.heap.size w wr)
  case atStart => exact ⟨0, rfl, by omega, by omega, Lib.hid (Own.empty w _ _ _ _ (Nat.le_refl _)), (by repeat' (first | (with_reducible exact Below.refl _ _) | (with_reducible assumption) | (with_reducible refine Below.setCell ?_ ?_ _) | (with_reducible refine Below.alloc ?_ ?_ _) | (with_reducible refine Below.drew ?_) | (with_reducible refine below_drewN ?_ _) | (with_reducible refine Below.trans ?_ (Below.mono (by with_reducible assumption) ?_)) | go_size | (simp at *; omega)))⟩
  case round =>
    obtain ⟨i, rfl, hik, hin, HO, hbel⟩ := hrel
    have hzr := hbel.size
    by_cases hlt : i ≤ N
    · have i1 : (i : Int) ≤ (N : Int) := by omega
      have hy : 0 ≤ (i : Int) ∧ (i : Int) ≤ 100000 := by omega
      cases hs : sqB (zX d n i)
      · have SA := Lib.hid (by have h := l10X_any d n i · hd hn hy; rw [hs] at h; exact h)
        have HS := Lib.hid (cs_no hs)
        clear hs
        go_wp2_with (go_at_call 48; refine (SA.out _).mono ?_; rintro e w1 ⟨rfl, rfl⟩)
        go_roundg (gk - 1)
        case measure => omega
        case rel => exact ⟨i + 1, by go_num, by omega, by omega, Lib.hid (by rw [HS.out]; exact HO.out), hbel⟩
      · have SA := Lib.hid (by have h := l10X_any d n i · hd hn hy; rw [hs] at h; exact h)
        have HS := Lib.hid (cs_yes hs)
        have hp := su_plain hd hn hy
        have HPL := Lib.hid (cs_pl hd hn i (by omega))
        have hlen := cs_len d n i
        have hX : -1000000000 ≤ rt (zX d n i) ∧ rt (zX d n i) ≤ 1000000000 := (pOk_iff.1 hp).1
        generalize rt (zX d n i) = X at *
        obtain ⟨L, hL⟩ : ∃ L, csF d n i = L := ⟨_, rfl⟩
        rw [hL] at HS HO HPL hlen
        clear hs hL
        have C1 := Lib.hid (fun v W h => l10Find_any d n X i v L w.heap.size W (by omega) hn0 h (by omega) HPL.out hp)
        have hl1 := adC_len d n L ⟨X, i⟩
        have HP1 := Lib.hid (adC_pl (n := n) HPL.out (p := ⟨X, i⟩) hp)
        have A1 : Hid (fnC d n X i L 0 < 0 → adC d n L ⟨X, i⟩ = L ++ [⟨X, i⟩]) := Lib.hid (fun h => adC_yes h)
        have A2 : Hid (0 ≤ fnC d n X i L 0 → adC d n L ⟨X, i⟩ = L) := Lib.hid (fun h => adC_no (Int.not_lt.2 h))
        generalize adC d n L ⟨X, i⟩ = L1 at *
        have C2 := Lib.hid (fun v W h => l10Find_any d n (-X) i v L1 w.heap.size W (by omega) hn0 h (by omega) HP1.out (pOk_neg hp))
        have A3 : Hid (fnC d n (-X) i L1 0 < 0 → adC d n L1 ⟨-X, i⟩ = L1 ++ [⟨-X, i⟩]) := Lib.hid (fun h => adC_yes h)
        have A4 : Hid (0 ≤ fnC d n (-X) i L1 0 → adC d n L1 ⟨-X, i⟩ = L1) := Lib.hid (fun h => adC_no (Int.not_lt.2 h))
        generalize adC d n L1 ⟨-X, i⟩ = L2 at *
        generalize fnC d n X i L 0 = F1 at *
        generalize fnC d n (-X) i L1 0 = F2 at *
        clear hp
        go_wp2_with fail
        refine (SA.out _).mono ?_
        rintro e w_ ⟨rfl, rfl⟩
        by_cases hf1 : F1 < 0
        · have H1 := Lib.hid (A1.out hf1)
          clear A1 A2
          go_wp2_with fail
          refine (C1.out _ _ (World.ownsRow.alloc HO.out _)).mono ?_
          rintro e w4 ⟨rfl, hb4⟩
          obtain ⟨hc4, hf4, -, hB4⟩ := bcell hb4; have hz4 := hb4.size; (try simp at hz4); (try have hk4_0 : w.heap.size < w4.heap.size := by omega); (try have hk4_1 : w.heap.size + 1 < w4.heap.size := by omega); (try have hk4_2 : w.heap.size + 1 + 1 < w4.heap.size := by omega); (try have hk4_3 : w.heap.size + 1 + 1 + 1 < w4.heap.size := by omega); (try have hk4_4 : wr.heap.size < w4.heap.size := by omega); (try have hk4_5 : wr.heap.size + 1 < w4.heap.size := by omega); (try have hk4_6 : w1.heap.size < w4.heap.size := by omega); (try have hk4_7 : w1.heap.size + 1 < w4.heap.size := by omega); (try have hk4_8 : w2.heap.size < w4.heap.size := by omega); (try have hk4_9 : w2.heap.size + 1 < w4.heap.size := by omega); (try have hk4_10 : w3.heap.size < w4.heap.size := by omega); (try have hk4_11 : w3.heap.size + 1 < w4.heap.size := by omega)
          have hsz4 := hb4.size
          simp at hsz4
          have gT4 : heapAt w4 wr.heap.size = some (.cells #[.int .i64 X, .int .i64 i] 25 (0, 0)) := (hb4.block _ (by simp)).trans (heapAt_new wr _)
          have HO4 := Lib.hid ((allocL HO.out (.cells #[.int .i64 X, .int .i64 i] 25)).below hb4)
          have hbx4 : Below w.heap.size w w4 := (Below.alloc hbel (by omega) _).trans (hb4.mono (by simp; omega))
          obtain ⟨zT4, t1, t2, t3, t4⟩ := blk2 gT4
          clear hc4 hf4 hB4
          obtain ⟨hi, hz0, hz1, hz2⟩ := HI.out
          go_wp2_with (at_builtin; refine wpList_append_own _ rfl _ _ 34 rfl w.heap.size 25 i0' (.agg #[.int .i64 0, .int .i64 0]) 2 16 Try.underlying34 hi hz0 hz1 hz2 rfl (by decide) _ _ _ rfl (World.ownsRow.alloc HO4.out _) ⟨w4.heap.size, 0, none⟩ 1 1 [.int .i64 X, .int .i64 i] rfl rfl ?c1 ?c2 ?c3 ?c4 ?c5 ?_)
          case c1 => exact newcs _ _ _ _ rfl
          case c2 => exact two_cells _ _
          case c3 => unfold maxLen; omega
          case c4 => omega
          case c5 => simp; omega
          intro v5 w5 hown' hgrow hnn
          have HN5 := Lib.hid (appP (f := ⟨X, i⟩) hown')
          have hbx5 : Below w.heap.size w w5 := Below.grown (Below.alloc hbx4 (by omega) _) hgrow (by simp; omega) (fun k hk => by have := (HO4.out.lt k hk).1; omega)
          have hzg5 := hgrow.size
          simp at hzg5
          clear hown' hgrow hnn hi hz0 hz1 hz2
          have HQ5 := Lib.hid (by have h := HN5.out; rw [← H1.out] at h; exact h)
          clear t1 t2 t3 t4
          by_cases hf2 : F2 < 0
          · have H2 := Lib.hid (A3.out hf2)
            clear A3 A4
            go_wp2_with fail
            refine (C2.out _ _ (World.ownsRow.alloc HQ5.out _)).mono ?_
            rintro e w6 ⟨rfl, hb6⟩
            obtain ⟨hc6, hf6, -, hB6⟩ := bcell hb6; have hz6 := hb6.size; (try simp at hz6); (try have hk6_0 : w.heap.size < w6.heap.size := by omega); (try have hk6_1 : w.heap.size + 1 < w6.heap.size := by omega); (try have hk6_2 : w.heap.size + 1 + 1 < w6.heap.size := by omega); (try have hk6_3 : w.heap.size + 1 + 1 + 1 < w6.heap.size := by omega); (try have hk6_4 : wr.heap.size < w6.heap.size := by omega); (try have hk6_5 : wr.heap.size + 1 < w6.heap.size := by omega); (try have hk6_6 : w1.heap.size < w6.heap.size := by omega); (try have hk6_7 : w1.heap.size + 1 < w6.heap.size := by omega); (try have hk6_8 : w2.heap.size < w6.heap.size := by omega); (try have hk6_9 : w2.heap.size + 1 < w6.heap.size := by omega); (try have hk6_10 : w3.heap.size < w6.heap.size := by omega); (try have hk6_11 : w3.heap.size + 1 < w6.heap.size := by omega); (try have hk6_12 : w4.heap.size < w6.heap.size := by omega); (try have hk6_13 : w4.heap.size + 1 < w6.heap.size := by omega); (try have hk6_14 : w5.heap.size < w6.heap.size := by omega); (try have hk6_15 : w5.heap.size + 1 < w6.heap.size := by omega)
            have hsz6 := hb6.size
            simp at hsz6
            have gT6 : heapAt w6 w5.heap.size = some (.cells #[.int .i64 (-X), .int .i64 i] 25 (0, 0)) := (hb6.block _ (by simp)).trans (heapAt_new w5 _)
            have HO6 := Lib.hid ((allocL HQ5.out (.cells #[.int .i64 (-X), .int .i64 i] 25)).below hb6)
            have hbx6 : Below w.heap.size w w6 := (Below.alloc hbx5 (by omega) _).trans (hb6.mono (by simp; omega))
            obtain ⟨zT6, t1, t2, t3, t4⟩ := blk2 gT6
            clear hc6 hf6 hB6
            obtain ⟨hi, hz0, hz1, hz2⟩ := HI.out
            go_wp2_with (at_builtin; refine wpList_append_own _ rfl _ _ 34 rfl w.heap.size 25 i0' (.agg #[.int .i64 0, .int .i64 0]) 2 16 Try.underlying34 hi hz0 hz1 hz2 rfl (by decide) _ _ _ rfl (World.ownsRow.alloc HO6.out _) ⟨w6.heap.size, 0, none⟩ 1 1 [.int .i64 (-X), .int .i64 i] rfl rfl ?c1 ?c2 ?c3 ?c4 ?c5 ?_)
            case c1 => exact newcs _ _ _ _ rfl
            case c2 => exact two_cells _ _
            case c3 => unfold maxLen; omega
            case c4 => omega
            case c5 => simp; omega
            intro v7 w7 hown' hgrow hnn
            have HN7 := Lib.hid (appP (f := ⟨(-X), i⟩) hown')
            have hbx7 : Below w.heap.size w w7 := Below.grown (Below.alloc hbx6 (by omega) _) hgrow (by simp; omega) (fun k hk => by have := (HO6.out.lt k hk).1; omega)
            have hzg7 := hgrow.size
            simp at hzg7
            clear hown' hgrow hnn hi hz0 hz1 hz2
            have HQ7 := Lib.hid (by have h := HN7.out; rw [← H2.out] at h; exact h)
            go_wp2_with fail
            go_roundg (gk - 1)
            case measure => omega
            case rel => exact ⟨i + 1, by go_num, by omega, by omega, Lib.hid (by rw [HS.out]; exact HQ7.out), hbx7⟩
          · have H2 := Lib.hid (A4.out (by omega))
            clear A3 A4
            go_wp2_with fail
            refine (C2.out _ _ (World.ownsRow.alloc HQ5.out _)).mono ?_
            rintro e w6 ⟨rfl, hb6⟩
            obtain ⟨hc6, hf6, -, hB6⟩ := bcell hb6; have hz6 := hb6.size; (try simp at hz6); (try have hk6_0 : w.heap.size < w6.heap.size := by omega); (try have hk6_1 : w.heap.size + 1 < w6.heap.size := by omega); (try have hk6_2 : w.heap.size + 1 + 1 < w6.heap.size := by omega); (try have hk6_3 : w.heap.size + 1 + 1 + 1 < w6.heap.size := by omega); (try have hk6_4 : wr.heap.size < w6.heap.size := by omega); (try have hk6_5 : wr.heap.size + 1 < w6.heap.size := by omega); (try have hk6_6 : w1.heap.size < w6.heap.size := by omega); (try have hk6_7 : w1.heap.size + 1 < w6.heap.size := by omega); (try have hk6_8 : w2.heap.size < w6.heap.size := by omega); (try have hk6_9 : w2.heap.size + 1 < w6.heap.size := by omega); (try have hk6_10 : w3.heap.size < w6.heap.size := by omega); (try have hk6_11 : w3.heap.size + 1 < w6.heap.size := by omega); (try have hk6_12 : w4.heap.size < w6.heap.size := by omega); (try have hk6_13 : w4.heap.size + 1 < w6.heap.size := by omega); (try have hk6_14 : w5.heap.size < w6.heap.size := by omega); (try have hk6_15 : w5.heap.size + 1 < w6.heap.size := by omega)
            have hsz6 := hb6.size
            simp at hsz6
            have gT6 : heapAt w6 w5.heap.size = some (.cells #[.int .i64 (-X), .int .i64 i] 25 (0, 0)) := (hb6.block _ (by simp)).trans (heapAt_new w5 _)
            have HO6 := Lib.hid ((allocL HQ5.out (.cells #[.int .i64 (-X), .int .i64 i] 25)).below hb6)
            have hbx6 : Below w.heap.size w w6 := (Below.alloc hbx5 (by omega) _).trans (hb6.mono (by simp; omega))
            obtain ⟨zT6, t1, t2, t3, t4⟩ := blk2 gT6
            clear hc6 hf6 hB6
            have HQ6 := Lib.hid (by have h := HO6.out; rw [← H2.out] at h; exact h)
            go_wp2_with fail
            go_roundg (gk - 1)
            case measure => omega
            case rel => exact ⟨i + 1, by go_num, by omega, by omega, Lib.hid (by rw [HS.out]; exact HQ6.out), hbx6⟩
        · have H1 := Lib.hid (A2.out (by omega))
          clear A1 A2
          go_wp2_with fail
          refine (C1.out _ _ (World.ownsRow.alloc HO.out _)).mono ?_
          rintro e w4 ⟨rfl, hb4⟩
          obtain ⟨hc4, hf4, -, hB4⟩ := bcell hb4; have hz4 := hb4.size; (try simp at hz4); (try have hk4_0 : w.heap.size < w4.heap.size := by omega); (try have hk4_1 : w.heap.size + 1 < w4.heap.size := by omega); (try have hk4_2 : w.heap.size + 1 + 1 < w4.heap.size := by omega); (try have hk4_3 : w.heap.size + 1 + 1 + 1 < w4.heap.size := by omega); (try have hk4_4 : wr.heap.size < w4.heap.size := by omega); (try have hk4_5 : wr.heap.size + 1 < w4.heap.size := by omega); (try have hk4_6 : w1.heap.size < w4.heap.size := by omega); (try have hk4_7 : w1.heap.size + 1 < w4.heap.size := by omega); (try have hk4_8 : w2.heap.size < w4.heap.size := by omega); (try have hk4_9 : w2.heap.size + 1 < w4.heap.size := by omega); (try have hk4_10 : w3.heap.size < w4.heap.size := by omega); (try have hk4_11 : w3.heap.size + 1 < w4.heap.size := by omega)
          have hsz4 := hb4.size
          simp at hsz4
          have gT4 : heapAt w4 wr.heap.size = some (.cells #[.int .i64 X, .int .i64 i] 25 (0, 0)) := (hb4.block _ (by simp)).trans (heapAt_new wr _)
          have HO4 := Lib.hid ((allocL HO.out (.cells #[.int .i64 X, .int .i64 i] 25)).below hb4)
          have hbx4 : Below w.heap.size w w4 := (Below.alloc hbel (by omega) _).trans (hb4.mono (by simp; omega))
          obtain ⟨zT4, t1, t2, t3, t4⟩ := blk2 gT4
          clear hc4 hf4 hB4
          have HQ4 := Lib.hid (by have h := HO4.out; rw [← H1.out] at h; exact h)
          clear t1 t2 t3 t4
          by_cases hf2 : F2 < 0
          · have H2 := Lib.hid (A3.out hf2)
            clear A3 A4
            go_wp2_with fail
            refine (C2.out _ _ (World.ownsRow.alloc HQ4.out _)).mono ?_
            rintro e w6 ⟨rfl, hb6⟩
            obtain ⟨hc6, hf6, -, hB6⟩ := bcell hb6; have hz6 := hb6.size; (try simp at hz6); (try have hk6_0 : w.heap.size < w6.heap.size := by omega); (try have hk6_1 : w.heap.size + 1 < w6.heap.size := by omega); (try have hk6_2 : w.heap.size + 1 + 1 < w6.heap.size := by omega); (try have hk6_3 : w.heap.size + 1 + 1 + 1 < w6.heap.size := by omega); (try have hk6_4 : wr.heap.size < w6.heap.size := by omega); (try have hk6_5 : wr.heap.size + 1 < w6.heap.size := by omega); (try have hk6_6 : w1.heap.size < w6.heap.size := by omega); (try have hk6_7 : w1.heap.size + 1 < w6.heap.size := by omega); (try have hk6_8 : w2.heap.size < w6.heap.size := by omega); (try have hk6_9 : w2.heap.size + 1 < w6.heap.size := by omega); (try have hk6_10 : w3.heap.size < w6.heap.size := by omega); (try have hk6_11 : w3.heap.size + 1 < w6.heap.size := by omega); (try have hk6_12 : w4.heap.size < w6.heap.size := by omega); (try have hk6_13 : w4.heap.size + 1 < w6.heap.size := by omega); (try have hk6_14 : w5.heap.size < w6.heap.size := by omega); (try have hk6_15 : w5.heap.size + 1 < w6.heap.size := by omega)
            have hsz6 := hb6.size
            simp at hsz6
            have gT6 : heapAt w6 w4.heap.size = some (.cells #[.int .i64 (-X), .int .i64 i] 25 (0, 0)) := (hb6.block _ (by simp)).trans (heapAt_new w4 _)
            have HO6 := Lib.hid ((allocL HQ4.out (.cells #[.int .i64 (-X), .int .i64 i] 25)).below hb6)
            have hbx6 : Below w.heap.size w w6 := (Below.alloc hbx4 (by omega) _).trans (hb6.mono (by simp; omega))
            obtain ⟨zT6, t1, t2, t3, t4⟩ := blk2 gT6
            clear hc6 hf6 hB6
            obtain ⟨hi, hz0, hz1, hz2⟩ := HI.out
            go_wp2_with (at_builtin; refine wpList_append_own _ rfl _ _ 34 rfl w.heap.size 25 i0' (.agg #[.int .i64 0, .int .i64 0]) 2 16 Try.underlying34 hi hz0 hz1 hz2 rfl (by decide) _ _ _ rfl (World.ownsRow.alloc HO6.out _) ⟨w6.heap.size, 0, none⟩ 1 1 [.int .i64 (-X), .int .i64 i] rfl rfl ?c1 ?c2 ?c3 ?c4 ?c5 ?_)
            case c1 => exact newcs _ _ _ _ rfl
            case c2 => exact two_cells _ _
            case c3 => unfold maxLen; omega
            case c4 => omega
            case c5 => simp; omega
            intro v7 w7 hown' hgrow hnn
            have HN7 := Lib.hid (appP (f := ⟨(-X), i⟩) hown')
            have hbx7 : Below w.heap.size w w7 := Below.grown (Below.alloc hbx6 (by omega) _) hgrow (by simp; omega) (fun k hk => by have := (HO6.out.lt k hk).1; omega)
            have hzg7 := hgrow.size
            simp at hzg7
            clear hown' hgrow hnn hi hz0 hz1 hz2
            have HQ7 := Lib.hid (by have h := HN7.out; rw [← H2.out] at h; exact h)
            go_wp2_with fail
            go_roundg (gk - 1)
            case measure => omega
            case rel => exact ⟨i + 1, by go_num, by omega, by omega, Lib.hid (by rw [HS.out]; exact HQ7.out), hbx7⟩
          · have H2 := Lib.hid (A4.out (by omega))
            clear A3 A4
            go_wp2_with fail
            refine (C2.out _ _ (World.ownsRow.alloc HQ4.out _)).mono ?_
            rintro e w6 ⟨rfl, hb6⟩
            obtain ⟨hc6, hf6, -, hB6⟩ := bcell hb6; have hz6 := hb6.size; (try simp at hz6); (try have hk6_0 : w.heap.size < w6.heap.size := by omega); (try have hk6_1 : w.heap.size + 1 < w6.heap.size := by omega); (try have hk6_2 : w.heap.size + 1 + 1 < w6.heap.size := by omega); (try have hk6_3 : w.heap.size + 1 + 1 + 1 < w6.heap.size := by omega); (try have hk6_4 : wr.heap.size < w6.heap.size := by omega); (try have hk6_5 : wr.heap.size + 1 < w6.heap.size := by omega); (try have hk6_6 : w1.heap.size < w6.heap.size := by omega); (try have hk6_7 : w1.heap.size + 1 < w6.heap.size := by omega); (try have hk6_8 : w2.heap.size < w6.heap.size := by omega); (try have hk6_9 : w2.heap.size + 1 < w6.heap.size := by omega); (try have hk6_10 : w3.heap.size < w6.heap.size := by omega); (try have hk6_11 : w3.heap.size + 1 < w6.heap.size := by omega); (try have hk6_12 : w4.heap.size < w6.heap.size := by omega); (try have hk6_13 : w4.heap.size + 1 < w6.heap.size := by omega); (try have hk6_14 : w5.heap.size < w6.heap.size := by omega); (try have hk6_15 : w5.heap.size + 1 < w6.heap.size := by omega)
            have hsz6 := hb6.size
            simp at hsz6
            have gT6 : heapAt w6 w4.heap.size = some (.cells #[.int .i64 (-X), .int .i64 i] 25 (0, 0)) := (hb6.block _ (by simp)).trans (heapAt_new w4 _)
            have HO6 := Lib.hid ((allocL HQ4.out (.cells #[.int .i64 (-X), .int .i64 i] 25)).below hb6)
            have hbx6 : Below w.heap.size w w6 := (Below.alloc hbx4 (by omega) _).trans (hb6.mono (by simp; omega))
            obtain ⟨zT6, t1, t2, t3, t4⟩ := blk2 gT6
            clear hc6 hf6 hB6
            have HQ6 := Lib.hid (by have h := HO6.out; rw [← H2.out] at h; exact h)
            go_wp2_with fail
            go_roundg (gk - 1)
            case measure => omega
            case rel => exact ⟨i + 1, by go_num, by omega, by omega, Lib.hid (by rw [HS.out]; exact HQ6.out), hbx6⟩
    · have i1 : ¬ (i : Int) ≤ (N : Int) := by omega
      have e : i = N + 1 := by omega
      subst e
      go_wp2_with fail
      go_ret
      unfold RetL1
      rw [← HF.out]
      exact ⟨_, rfl, HO.out, hbel⟩
end Go.Proofs.Ytdbbjmcfpfalhaa
