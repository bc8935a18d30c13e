/- Each solution is in one class: the walk. -/
import Derived.Test.YtdbbjmcfpfalhaaNorm
import Derived.Test.YtdbbjmcfpfalhaaDrawB
import Derived.BigGuardPart
namespace Go.Proofs.Ytdbbjmcfpfalhaa
open Go.ChangeShapes Go.WideShapes Go.ChangeAt Go.RowKit
set_option linter.unusedVariables false
set_option maxHeartbeats 8000000
set_option maxRecDepth 20000
theorem stoodPP : Try.prog.stoodInHeld 25 = false := by kernel_rfl
theorem guardPP : Try.prog.eqGuardType Try.prog.depth 25 = false := by kernel_rfl
theorem fieldsPP : Try.prog.underlying 25 = some (.struct (Try.prog.fieldsOf 25)) := by kernel_rfl
theorem neqPP (a b : Int) (w : World) : (binOp .neq 25 (.agg #[.int .i64 a, .int .i64 b]) (.agg #[.int .i64 a, .int .i64 b])).run Try.prog w = .ok (.bool false) w := by
  rw [run_neq_struct, run_equalIn_struct w 9999 25 _ _ fieldsPP stoodPP]
  simp [go_sem, Try.underlying25, Try.underlying2]
theorem lenS (a : Option Addr) (n c : Nat) (V : World) : Sem.run Try.prog (Builtin.len_ #[34] 3 #[.slice a n c]) V = .ok (.int .i64 n) V := by
  simp [Builtin.len_, go_sem]
theorem f6big_any (ao : Option Addr) (n cap : Nat) (w : World) :
    Calls Try.prog 36 #[.slice ao n cap] w fun e w' => e = .returned (.bool (decide (4096 < n))) ∧ w = w' := by
  by_cases h : 4096 < n
  · have h1 : (4096 : Int) < (n : Int) := by omega
    go_enter Try.func36, Try.ntmps36
    go_wp2_with fail
    go_ret
    exact ⟨ret_bool (by first | (simp; done) | (simp [h]; done)), rfl⟩
  · have h1 : ¬ (4096 : Int) < (n : Int) := by omega
    go_enter Try.func36, Try.ntmps36
    go_wp2_with fail
    go_ret
    exact ⟨ret_bool (by first | (simp; done) | (simp [h]; done)), rfl⟩
theorem coR_zero {d n x y c : Int} {L : List Pp} (h : (coR d n x y L c).2 = 0) : c = 0 ∧ isS d n x y = true ∧ (coR d n x y L c).1 = fnC d n x y L 0 := by
  by_cases hc : c = 0
  · subst hc
    cases hs : isS d n x y
    · rw [coR_no hs] at h; simp at h
    · rw [coR_yes hs]; exact ⟨rfl, rfl, rfl⟩
  · rw [coR_bad hc] at h; exact absurd h hc
theorem scR_ok {d n x y u v : Int} (hc : eqC d n = 0) (h1 : isS d n x y = true) (h2 : isS d n u v = true) : scR d n x y u v = (smB d n x y u v, 0) := by
  unfold scR
  rw [if_pos hc, h1, h2]
  rfl
theorem slR_ok {d n x y : Int} (hc : eqC d n = 0) (h1 : isS d n x y = true) : slR d n x y = true := by
  unfold slR
  rw [h1, hc]
  rfl

theorem walk_FnNormClasses (a : Option Addr) (len cap : Nat) (z : List Int) {w : World} (hr : IsRow .u8 w a len cap z) :
    Calls Try.prog 12 #[.slice a len cap] w fun e w' => e = .returned (.bool true) ∧ Below w.heap.size w w' := by
  have HR := Lib.hid hr.bytes
  clear hr
  by_cases hbig : 4096 < len
  · have F6 := Lib.hid (by have h := f6big_any a len cap; rw [decide_eq_true hbig] at h; exact h)
    go_enter Try.func12, Try.ntmps12
    go_wp2_with (go_at_call 36; refine (F6.out _).mono ?_; rintro e w1 ⟨rfl, rfl⟩)
    go_ret
    exact ⟨rfl, (by repeat' (first | (with_reducible exact Below.refl _ _) | (with_reducible assumption) | (with_reducible refine Below.setCell ?_ ?_ _) | (with_reducible refine Below.alloc ?_ ?_ _) | (with_reducible refine Below.drew ?_) | (with_reducible refine below_drewN ?_ _) | (with_reducible refine Below.trans ?_ (Below.mono (by with_reducible assumption) ?_)) | go_size | (simp at *; omega)))⟩
  · have F6 := Lib.hid (by have h := f6big_any a len cap; rw [decide_eq_false hbig] at h; exact h)
    go_enter Try.func12, Try.ntmps12
    go_wp2_with (go_at_call 36; refine (F6.out _).mono ?_; rintro e w1 ⟨rfl, rfl⟩)
    go_wp2_with fail
    refine (drawClassOf_any a len cap w HR.out (by omega)).mono ?_
    rintro e w1 ⟨d, m, x, y, rfl, b1⟩
    have B1 := Lib.hid b1
    clear b1
    obtain ⟨L, c, hl, h0, h1, CSi, CSs⟩ := cs_norm d m
    have COi := Lib.hid (fun w => iCO_any d m x y L c w hl (fun h => ⟨(h0 h).1, (h0 h).2.1⟩) CSi)
    have COs := Lib.hid (fun w => sCO_any d m x y L c w hl (fun h => ⟨(h0 h).1, (h0 h).2.1, (h0 h).2.2.2⟩) (fun h => (h1 h).2))
    have COn := Lib.hid (fun u v w => iCO_any d m u v L c w hl (fun h => ⟨(h0 h).1, (h0 h).2.1⟩) CSi)
    have HRA := Lib.hid (coR_zero (d := d) (n := m) (x := x) (y := y) (c := c) (L := L))
    have HC := Lib.hid (fun h => And.intro (h0 h).1 (h0 h).2.2.1)
    have HL := Lib.hid (fun h => (h1 h).1)
    have CI := Lib.hid CSi
    have CS := Lib.hid CSs
    have PI := Lib.hid (iProofModulus_any d m)
    have PS := Lib.hid (sProofModulus_any d m)
    have HPM := Lib.hid (fun (h : (pmR d m).2 = 0) u v (hp : isS d m u v = true) => pm_none h hp)
    clear CSi CSs h0 h1
    generalize coR d m x y L c = R at *
    obtain ⟨R1, R2⟩ := R
    generalize pmR d m = PM at *
    obtain ⟨P1, P2⟩ := PM
    go_wp2_with fail
    refine (COi.out _).mono ?_
    rintro e w2 ⟨rfl, b2⟩
    have F2 : Hid (heapAt w2 w1.heap.size = some (.cells #[.int .i64 x, .int .i64 y] 25 (0, 0))) := Lib.hid (blk_keep (heapAt_new w1 _) b2 (by simp))
    have B2 : Hid (Below w.heap.size w w2) := Lib.hid ((Below.alloc B1.out B1.out.size _).trans (b2.mono (by have := B1.out.size; simp; omega)))
    clear b2
    have cF := F2.out
    obtain ⟨zF, pF1, pF2, pF3, pF4⟩ := blk2 cF
    go_wp2_with fail
    refine (COs.out _).mono ?_
    rintro e w3 ⟨rfl, b3⟩
    have F3 : Hid (heapAt w3 w1.heap.size = some (.cells #[.int .i64 x, .int .i64 y] 25 (0, 0))) := Lib.hid (blk_keep F2.out b3 (blk_lt F2.out))
    have B3 : Hid (Below w.heap.size w w3) := Lib.hid (B2.out.trans (b3.mono B2.out.size))
    clear b3
    clear pF1 pF2 pF3 pF4 cF
    go_wp2_with fail
    refine (CI.out _).mono ?_
    intro e w4 hr
    unfold RetL at hr
    obtain ⟨v1, rfl, o4, b4⟩ := hr
    have F4 : Hid (heapAt w4 w1.heap.size = some (.cells #[.int .i64 x, .int .i64 y] 25 (0, 0))) := Lib.hid (blk_keep F3.out b4 (blk_lt F3.out))
    have B4 : Hid (Below w.heap.size w w4) := Lib.hid (B3.out.trans (b4.mono B3.out.size))
    clear b4
    have O4 := Lib.hid o4
    clear o4
    go_wp2_with fail
    refine (CS.out _).mono ?_
    intro e w5 hr
    unfold RetL at hr
    obtain ⟨v2, rfl, o5, b5⟩ := hr
    have F5 : Hid (heapAt w5 w1.heap.size = some (.cells #[.int .i64 x, .int .i64 y] 25 (0, 0))) := Lib.hid (blk_keep F4.out b5 (blk_lt F4.out))
    have O5 := Lib.hid (O4.out.below b5)
    have B5 : Hid (Below w.heap.size w w5) := Lib.hid (B4.out.trans (b5.mono B4.out.size))
    clear b5
    have Q5 := Lib.hid o5
    clear o5
    go_wp2_with fail
    refine (PI.out _).mono ?_
    rintro e w6 ⟨rfl, b6⟩
    have F6 : Hid (heapAt w6 w1.heap.size = some (.cells #[.int .i64 x, .int .i64 y] 25 (0, 0))) := Lib.hid (blk_keep F5.out b6 (blk_lt F5.out))
    have O6 := Lib.hid (O5.out.below b6)
    have Q6 := Lib.hid (Q5.out.below b6)
    have B6 : Hid (Below w.heap.size w w6) := Lib.hid (B5.out.trans (b6.mono B5.out.size))
    clear b6
    go_wp2_with fail
    refine (PS.out _).mono ?_
    rintro e w7 ⟨rfl, b7⟩
    have F7 : Hid (heapAt w7 w1.heap.size = some (.cells #[.int .i64 x, .int .i64 y] 25 (0, 0))) := Lib.hid (blk_keep F6.out b7 (blk_lt F6.out))
    have O7 := Lib.hid (O6.out.below b7)
    have Q7 := Lib.hid (Q6.out.below b7)
    have B7 : Hid (Below w.heap.size w w7) := Lib.hid (B6.out.trans (b7.mono B6.out.size))
    clear b7
    go_wp2_with fail
    refine (drawNextOfClass_any a len cap _ ((HR.out.below B7.out (Nat.le_refl _)).mono B7.out.size) (by omega)).mono ?_
    rintro e w8 ⟨d2, x2, y2, rfl, b8⟩
    have F8 : Hid (heapAt w8 w1.heap.size = some (.cells #[.int .i64 x, .int .i64 y] 25 (0, 0))) := Lib.hid (blk_keep F7.out b8 (blk_lt F7.out))
    have O8 := Lib.hid (O7.out.below b8)
    have Q8 := Lib.hid (Q7.out.below b8)
    have B8 : Hid (Below w.heap.size w w8) := Lib.hid (B7.out.trans (b8.mono B7.out.size))
    clear b8
    obtain ⟨m1, m2, m3, NI, NS⟩ := next_both d2 x2 y2
    have NI' := Lib.hid NI
    have NS' := Lib.hid NS
    clear NI NS
    go_wp2_with fail
    refine (NI'.out _).mono ?_
    rintro e w9 ⟨rfl, b9⟩
    have G9 : Hid (heapAt w9 w8.heap.size = some (.cells #[.int .i64 x2, .int .i64 y2] 25 (0, 0))) := Lib.hid (blk_keep (heapAt_new w8 _) b9 (by simp))
    have F9 : Hid (heapAt w9 w1.heap.size = some (.cells #[.int .i64 x, .int .i64 y] 25 (0, 0))) := Lib.hid (blk_keep ((heapAt_old (blk_lt F8.out)).trans F8.out) b9 (by have := blk_lt F8.out; simp; omega))
    have O9 := Lib.hid ((allocL O8.out (.cells #[.int .i64 x2, .int .i64 y2] 25)).below b9)
    have Q9 := Lib.hid ((allocL Q8.out (.cells #[.int .i64 x2, .int .i64 y2] 25)).below b9)
    have B9 : Hid (Below w.heap.size w w9) := Lib.hid ((Below.alloc B8.out B8.out.size _).trans (b9.mono (by have := B8.out.size; simp; omega)))
    clear b9
    have cG := G9.out
    obtain ⟨zG, pG1, pG2, pG3, pG4⟩ := blk2 cG
    go_wp2_with fail
    refine (NS'.out _).mono ?_
    rintro e w10 ⟨rfl, b10⟩
    have H10 : Hid (heapAt w10 w9.heap.size = some (.cells #[.int .i64 m1, .int .i64 m2] 25 (0, 0))) := Lib.hid (blk_keep (heapAt_new w9 _) b10 (by simp))
    have F10 : Hid (heapAt w10 w1.heap.size = some (.cells #[.int .i64 x, .int .i64 y] 25 (0, 0))) := Lib.hid (blk_keep ((heapAt_old (blk_lt F9.out)).trans F9.out) b10 (by have := blk_lt F9.out; simp; omega))
    have G10 : Hid (heapAt w10 w8.heap.size = some (.cells #[.int .i64 x2, .int .i64 y2] 25 (0, 0))) := Lib.hid (blk_keep ((heapAt_old (blk_lt G9.out)).trans G9.out) b10 (by have := blk_lt G9.out; simp; omega))
    have O10 := Lib.hid ((allocL O9.out (.cells #[.int .i64 m1, .int .i64 m2] 25)).below b10)
    have Q10 := Lib.hid ((allocL Q9.out (.cells #[.int .i64 m1, .int .i64 m2] 25)).below b10)
    have B10 : Hid (Below w.heap.size w w10) := Lib.hid ((Below.alloc B9.out B9.out.size _).trans (b10.mono (by have := B9.out.size; simp; omega)))
    clear b10
    clear pG1 pG2 pG3 pG4 cG
    obtain ⟨V, hV⟩ : ∃ V, V = w10.alloc (.cells #[.int .i64 m1, .int .i64 m2] 25) := ⟨_, rfl⟩
    go_wp2_with fail
    have gJ : heapAt (w10.alloc (.cells #[.int .i64 m1, .int .i64 m2] 25)) w10.heap.size = some (.cells #[.int .i64 m1, .int .i64 m2] 25 (0, 0)) := heapAt_new _ _
    have bV : Below w10.heap.size w10 V := by rw [hV]; exact (by repeat' (first | (with_reducible exact Below.refl _ _) | (with_reducible assumption) | (with_reducible refine Below.setCell ?_ ?_ _) | (with_reducible refine Below.alloc ?_ ?_ _) | (with_reducible refine Below.drew ?_) | (with_reducible refine below_drewN ?_ _) | (with_reducible refine Below.trans ?_ (Below.mono (by with_reducible assumption) ?_)) | go_size | (simp at *; omega)))
    have FV := Lib.hid (blk_keep F10.out bV (blk_lt F10.out))
    have HV := Lib.hid (blk_keep H10.out bV (blk_lt H10.out))
    have OV := Lib.hid (O10.out.below bV)
    have QV := Lib.hid (Q10.out.below bV)
    have BV := Lib.hid (B10.out.trans (bV.mono B10.out.size))
    rw [← hV] at gJ ⊢
    clear hV bV
    have cH := HV.out
    obtain ⟨zH, pH1, pH2, pH3, pH4⟩ := blk2 cH
    obtain ⟨zJ, pJ1, pJ2, pJ3, pJ4⟩ := blk2 gJ
    have e1 := neqPP
    have e2 := guardPP
    have e3 := lenS
    obtain ⟨ao1, c1, rfl⟩ := OV.out.len
    obtain ⟨ao2, c2, rfl⟩ := QV.out.len
    go_wp2_with fail
    simp only [lenS, Result.andThen]
    go_wp2_with fail
    clear pH1 pH2 pH3 pH4 pJ1 pJ2 pJ3 pJ4 cH gJ e3
    go_loopg [24] (L.length + 1) (fun k u wr => ∃ i : Nat, u = .int .i64 i ∧ i + k = L.length + 1 ∧ i ≤ L.length ∧ Below V.heap.size V wr)
    case atStart => exact ⟨0, rfl, by omega, by omega, Below.refl _ _⟩
    case round =>
      obtain ⟨i, rfl, hik, hil, hbel⟩ := hrel
      have hzr := hbel.size
      by_cases hlt : i < L.length
      · have i0 : (0 : Int) ≤ (i : Int) := by omega
        have i1 : (i : Int) < (L.length : Int) := by omega
        have hc0 : c = 0 := by
          by_cases h : c = 0
          · exact h
          · have := HL.out h; rw [this] at hlt; simp at hlt
        obtain ⟨he, hcl⟩ := HC.out hc0
        clear hc0
        have hsol := hcl.sol _ (List.getElem_mem hlt)
        have IS := Lib.hid (by have h := iIsSolution_any d m (L[i]).x (L[i]).y; rw [slR_ok he hsol] at h; exact h)
        rcases OV.out.shape with ⟨hnil, _⟩ | ⟨hp1, b1, cc1, hv1, -, hb1, -⟩
        · rw [hnil] at hlt; simp at hlt
        rcases QV.out.shape with ⟨hnil, _⟩ | ⟨hp2, b2, cc2, hv2, -, hb2, -⟩
        · rw [hnil] at hlt; simp at hlt
        simp only [Value.slice.injEq] at hv1 hv2
        obtain ⟨rfl, -, rfl⟩ := hv1
        obtain ⟨rfl, -, rfl⟩ := hv2
        obtain ⟨q1, q2⟩ := OwnP.cells (OV.out.below hbel) i hlt
        obtain ⟨q3, q4⟩ := OwnP.cells (QV.out.below hbel) i hlt
        have zb1 : b1 < wr.heap.size := by omega
        have zb2 : b2 < wr.heap.size := by omega
        generalize (L[i]).x = X at *
        generalize (L[i]).y = Y at *
        clear hsol hcl hp1 hp2 he
        go_wp2_with fail
        go_region_held3 (fun w' => Kept wr w') (repeat (first | (with_reducible assumption) | (with_reducible exact kept_refl _) | (with_reducible exact kept_other (by with_reducible assumption) (by first | omega | (simp; done) | (simp; omega))) | (with_reducible refine kept_alloc ?_) | (with_reducible refine kept_drew ?_) | (with_reducible refine kept_set ?_ (by first | omega | (simp; done) | (simp; omega))) | (with_reducible refine kept_call ?_ hb1))) (first | (go_at_call 15; refine (IS.out _).mono ?_; rintro e w1 ⟨rfl, hb1⟩; obtain ⟨hc1, hf1, hl1, hB1⟩ := bcell hb1; (try simp only [World.size_drew, cell_drew, frozen_drew, heapAt_drew] at hc1 hf1 hl1 hB1); have hz1 := hb1.size; (try simp at hz1); (try have hkA := hl1 _ hkA); (try have hkA : _ < w1.heap.size := hz1); (try have hkW : wr.heap.size < w1.heap.size := by omega); (try have hk0 : w.heap.size < w1.heap.size := by omega); (try have hk1 : w.heap.size + 1 < w1.heap.size := by omega); (try have hk2 : w.heap.size + 1 + 1 < w1.heap.size := by omega)))
        all_goals
          go_wp2_with fail
          go_roundg (gk - 1)
          case measure => omega
          case rel => exact ⟨i + 1, by go_num, by omega, by omega, (by repeat' (first | (with_reducible exact Below.refl _ _) | (with_reducible assumption) | (with_reducible refine Below.setCell ?_ ?_ _) | (with_reducible refine Below.alloc ?_ ?_ _) | (with_reducible refine Below.drew ?_) | (with_reducible refine below_drewN ?_ _) | (with_reducible refine Below.trans ?_ (Below.mono (by with_reducible assumption) ?_)) | go_size | (simp at *; omega)))⟩
      · have i1 : ¬ (i : Int) < (L.length : Int) := by omega
        by_cases hR2 : R2 = 0
        · obtain ⟨hc0, hps, hF⟩ := HRA.out hR2
          have hP2 : P2 ≠ 0 := fun h => HPM.out h _ _ hps
          obtain ⟨he, hcl⟩ := HC.out hc0
          have HPS := Lib.hid hps
          have HE := Lib.hid he
          have HCL := Lib.hid hcl
          have HN0 := Lib.hid (eqC_zero he).1.2.2
          have hP2b : (P2 == 0) = false := by simp [hP2]
          have HF := Lib.hid hF
          have HR2 := Lib.hid hR2
          have HC0 := Lib.hid hc0
          have hR2b : (R2 != 0) = false := by simp [hR2]
          clear hc0 hps hF he hcl hR2 hP2
          go_wp2_with fail
          clear hP2b hR2b
          go_loopg [25] (L.length + 1) (fun k u wx => ∃ j : Nat, u = .int .i64 j ∧ j + k = L.length + 1 ∧ j ≤ L.length ∧ Below V.heap.size V wx)
          case atStart => exact ⟨0, rfl, by omega, by omega, hbel⟩
          case round =>
            obtain ⟨j, rfl, hjk, hjl, hbx⟩ := hrel
            have hzx := hbx.size
            have hF5 := blk_keep FV.out hbx (blk_lt FV.out)
            obtain ⟨zF, pF1, pF2, pF3, pF4⟩ := blk2 hF5
            by_cases hlt : j < L.length
            · have i0 : (0 : Int) ≤ (j : Int) := by omega
              have i3 : (j : Int) < (L.length : Int) := by omega
              have hsol := HCL.out.sol _ (List.getElem_mem hlt)
              have SC := Lib.hid (by have h := iSameClass_any d m x y (L[j]).x (L[j]).y; rw [scR_ok HE.out HPS.out hsol, cl_one HN0.out HCL.out HPS.out j hlt, ← HF.out] at h; exact h)
              rcases QV.out.shape with ⟨hnil, _⟩ | ⟨hp2, b2, cc2, hv2, -, hb2, -⟩
              · rw [hnil] at hlt; simp at hlt
              simp only [Value.slice.injEq] at hv2
              obtain ⟨rfl, -, rfl⟩ := hv2
              obtain ⟨q3, q4⟩ := OwnP.cells (QV.out.below hbx) j hlt
              have zb2 : b2 < wr.heap.size := by omega
              generalize (L[j]).x = X at *
              generalize (L[j]).y = Y at *
              clear hsol hp2 hF5
              by_cases hjR : (j : Int) = R1
              · have hjb : ((j : Int) == R1) = true := by simp [hjR]
                rw [hjb] at SC
                clear hjb
                subst hjR
                go_wp2_with fail
                go_region_held3 (fun w' => Kept wr w') (repeat (first | (with_reducible assumption) | (with_reducible exact kept_refl _) | (with_reducible exact kept_other (by with_reducible assumption) (by first | omega | (simp; done) | (simp; omega))) | (with_reducible refine kept_alloc ?_) | (with_reducible refine kept_drew ?_) | (with_reducible refine kept_set ?_ (by first | omega | (simp; done) | (simp; omega))) | (with_reducible refine kept_call ?_ hb1))) (first | (go_at_call 17; refine (SC.out _).mono ?_; rintro e w1 ⟨rfl, hb1⟩; obtain ⟨hc1, hf1, hl1, hB1⟩ := bcell hb1; (try simp only [World.size_drew, cell_drew, frozen_drew, heapAt_drew] at hc1 hf1 hl1 hB1); have hz1 := hb1.size; (try simp at hz1); (try have hkA := hl1 _ hkA); (try have hkA : _ < w1.heap.size := hz1); (try have hkW : wr.heap.size < w1.heap.size := by omega); (try have hk0 : w.heap.size < w1.heap.size := by omega); (try have hk1 : w.heap.size + 1 < w1.heap.size := by omega); (try have hk2 : w.heap.size + 1 + 1 < w1.heap.size := by omega)))
                all_goals
                  go_wp2_with fail
                  go_roundg (gk - 1)
                  case measure => omega
                  case rel => exact ⟨j + 1, by go_num, by omega, by omega, (by repeat' (first | (with_reducible exact Below.refl _ _) | (with_reducible assumption) | (with_reducible refine Below.setCell ?_ ?_ _) | (with_reducible refine Below.alloc ?_ ?_ _) | (with_reducible refine Below.drew ?_) | (with_reducible refine below_drewN ?_ _) | (with_reducible refine Below.trans ?_ (Below.mono (by with_reducible assumption) ?_)) | go_size | (simp at *; omega)))⟩
              · have hjb : ((j : Int) == R1) = false := by simp [hjR]
                rw [hjb] at SC
                go_wp2_with fail
                go_region_held3 (fun w' => Kept wr w') (repeat (first | (with_reducible assumption) | (with_reducible exact kept_refl _) | (with_reducible exact kept_other (by with_reducible assumption) (by first | omega | (simp; done) | (simp; omega))) | (with_reducible refine kept_alloc ?_) | (with_reducible refine kept_drew ?_) | (with_reducible refine kept_set ?_ (by first | omega | (simp; done) | (simp; omega))) | (with_reducible refine kept_call ?_ hb1))) (first | (go_at_call 17; refine (SC.out _).mono ?_; rintro e w1 ⟨rfl, hb1⟩; obtain ⟨hc1, hf1, hl1, hB1⟩ := bcell hb1; (try simp only [World.size_drew, cell_drew, frozen_drew, heapAt_drew] at hc1 hf1 hl1 hB1); have hz1 := hb1.size; (try simp at hz1); (try have hkA := hl1 _ hkA); (try have hkA : _ < w1.heap.size := hz1); (try have hkW : wr.heap.size < w1.heap.size := by omega); (try have hk0 : w.heap.size < w1.heap.size := by omega); (try have hk1 : w.heap.size + 1 < w1.heap.size := by omega); (try have hk2 : w.heap.size + 1 + 1 < w1.heap.size := by omega)))
                all_goals
                  go_wp2_with fail
                  go_roundg (gk - 1)
                  case measure => omega
                  case rel => exact ⟨j + 1, by go_num, by omega, by omega, (by repeat' (first | (with_reducible exact Below.refl _ _) | (with_reducible assumption) | (with_reducible refine Below.setCell ?_ ?_ _) | (with_reducible refine Below.alloc ?_ ?_ _) | (with_reducible refine Below.drew ?_) | (with_reducible refine below_drewN ?_ _) | (with_reducible refine Below.trans ?_ (Below.mono (by with_reducible assumption) ?_)) | go_size | (simp at *; omega)))⟩
            · have i3 : ¬ (j : Int) < (L.length : Int) := by omega
              obtain ⟨n1, n2, n3, NX, hn3⟩ := next_of d m x y HE.out HPS.out
              have NX' := Lib.hid NX
              have HN3 := Lib.hid hn3
              have hbw : Below w.heap.size w wr := BV.out.trans (hbx.mono BV.out.size)
              clear NX hn3
              go_wp2_with fail
              refine (NX'.out _).mono ?_
              rintro e w11 ⟨rfl, b11⟩
              have hbw11 : Below w.heap.size w w11 := hbw.trans (b11.mono hbw.size)
              by_cases h3 : n3 = 0
              · obtain ⟨hs3, hf3⟩ := HN3.out h3
                have CN := Lib.hid (by have h := COn.out n1 n2; rw [HC0.out, coR_yes hs3, hf3, ← HF.out] at h; exact h)
                have h3b : (n3 != 0) = false := by simp [h3]
                clear hs3 hf3 h3
                go_wp2_with fail
                refine (CN.out _).mono ?_
                rintro e w12 ⟨rfl, b12⟩
                have hbw12 : Below w.heap.size w w12 := (Below.alloc hbw11 hbw11.size _).trans (b12.mono (by have := hbw11.size; simp; omega))
                go_wp2_with fail
                go_ret
                exact ⟨rfl, hbw12⟩
              · have h3b : (n3 != 0) = true := by simp [h3]
                go_wp2_with fail
                go_ret
                exact ⟨rfl, Below.alloc hbw11 hbw11.size _⟩
        · have hbw : Below w.heap.size w wr := BV.out.trans (hbel.mono BV.out.size)
          have hR2b : (R2 != 0) = true := by simp [hR2]
          by_cases hP2 : P2 = 0
          · by_cases hc0 : c = 0
            · have hLL : ¬ (0 : Int) < (L.length : Int) := by
                intro hpos
                obtain ⟨-, hcl⟩ := HC.out hc0
                exact HPM.out hP2 _ _ (hcl.sol _ (List.getElem_mem (by omega : 0 < L.length)))
              have hP2b : (P2 == 0) = true := by simp [hP2]
              have hc0b : (c == 0) = true := by simp [hc0]
              clear hc0 hP2
              go_wp2_with fail
              go_ret
              exact ⟨rfl, hbw⟩
            · have hP2b : (P2 == 0) = true := by simp [hP2]
              have hc0b : (c == 0) = false := by simp [hc0]
              clear hP2
              go_wp2_with fail
              go_ret
              exact ⟨rfl, hbw⟩
          · have hP2b : (P2 == 0) = false := by simp [hP2]
            go_wp2_with fail
            go_ret
            exact ⟨rfl, hbw⟩
end Go.Proofs.Ytdbbjmcfpfalhaa
