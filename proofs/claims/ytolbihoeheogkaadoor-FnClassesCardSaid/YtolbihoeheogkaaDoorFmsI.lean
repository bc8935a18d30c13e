/- The cycle of a form: the program, and the reference's frame. -/
import Derived.Test.YtolbihoeheogkaaDoorFmsH
namespace Go.Proofs.YtolbihoeheogkaaDoor
open Go.ChangeShapes Go.WideShapes Go.ChangeAt Go.RowKit
set_option linter.unusedVariables false
set_option maxHeartbeats 1000000
theorem rdF_keeps : ∀ (k : Nat) (f : Fm) (n : Int), vFm f = true → muF f < k → (rdF k f n).2.2 = true →
    dF (rdF k f n).1.a (rdF k f n).1.b (rdF k f n).1.c = dF f.a f.b f.c ∧ vFm (rdF k f n).1 = true ∧ redF (rdF k f n).1.a (rdF k f n).1.b (rdF k f n).1.c = true := by
  intro k
  induction k with
  | zero => intro f n hv hm; omega
  | succ k ih =>
    intro f n hv hm hr
    cases hd : redF f.a f.b f.c
    · cases hs : stepV f.a f.b f.c
      · rw [rdF_bad hd hs] at hr
        simp at hr
      · rw [rdF_step hd hs] at hr ⊢
        have hlt := mu_lt (f := f) hv hd hs
        obtain ⟨h1, h2, h3⟩ := ih _ _ hs (by omega) hr
        obtain ⟨a1, b1, c1⟩ := vF_in hv
        rw [step_disc a1 b1 c1 (vF_c hv)] at h1
        exact ⟨h1, h2, h3⟩
    · rw [rdF_done hd]
      exact ⟨rfl, hv, hd⟩
theorem rdR_keeps {a b c : Int} (hv : vF a b c = true) (h : (rdR a b c).2.2 = true) :
    dF (rdR a b c).1.a (rdR a b c).1.b (rdR a b c).1.c = dF a b c ∧ vFm (rdR a b c).1 = true ∧ redF (rdR a b c).1.a (rdR a b c).1.b (rdR a b c).1.c = true :=
  rdF_keeps 10003 ⟨a, b, c⟩ 0 hv (by have := mu_le (f := ⟨a, b, c⟩) (vF_in hv).2.2; omega) h
def olF : Option (List Fm) → List Fm × Int
  | some L => (L, 0)
  | none => ([], 5)
/-- The cycle of whatever form, and the code. -/
def fcR (a b c : Int) : List Fm × Int := if vF a b c = true then (if (rdR a b c).2.2 = true then olF (cyR (rdR a b c).1) else ([], 5)) else ([], 1)
theorem sFormCycle_any (a b c : Int) (w : World) :
    Calls Tryd.prog 14 #[.agg #[.int .i64 a, .int .i64 b, .int .i64 c]] w (RetFC w (fcR a b c).1 (fcR a b c).2) := by
  cases hv : vF a b c
  · have HF : Hid (fcR a b c = ([], 1)) := Lib.hid (by simp [fcR, hv])
    go_enter Tryd.func14, Tryd.ntmps14
    go_wp2_with fail; refine (l11Ok_any _ _ _ _).mono ?_; rintro e w1 ⟨rfl, hb1⟩; obtain ⟨hc1, hf1, -, hB1⟩ := bcell hb1; have hz1 := hb1.size; (try simp at hz1); (try have hk1_0 : w.heap.size < w1.heap.size := by omega); (try have hk1_1 : w.heap.size + 1 < w1.heap.size := by omega); (try have hk1_2 : w.heap.size + 1 + 1 < w1.heap.size := by omega); (try have hk1_3 : w.heap.size + 1 + 1 + 1 < w1.heap.size := by omega); (try have hk1_4 : wr.heap.size < w1.heap.size := by omega); (try have hk1_5 : wr.heap.size + 1 < w1.heap.size := by omega)
    go_wp2_with fail
    go_ret2
    unfold RetFC
    rw [HF.out]
    exact ⟨_, rfl, Own.nil _ _ _ _ _, (by repeat' (first | (with_reducible exact Below.refl _ _) | (with_reducible assumption) | (with_reducible refine Below.setCell ?_ ?_ _) | (with_reducible refine Below.alloc ?_ ?_ _) | (with_reducible refine Below.drew ?_) | (with_reducible refine below_drewN ?_ _) | (with_reducible refine Below.trans ?_ (Below.mono (by with_reducible assumption) ?_)) | go_size | (simp at *; omega)))⟩
  · cases hs : (rdR a b c).2.2
    · have HF : Hid (fcR a b c = ([], 5)) := Lib.hid (by simp [fcR, hv, hs])
      go_enter Tryd.func14, Tryd.ntmps14
      go_wp2_with fail; refine (l11Ok_any _ _ _ _).mono ?_; rintro e w1 ⟨rfl, hb1⟩; obtain ⟨hc1, hf1, -, hB1⟩ := bcell hb1; have hz1 := hb1.size; (try simp at hz1); (try have hk1_0 : w.heap.size < w1.heap.size := by omega); (try have hk1_1 : w.heap.size + 1 < w1.heap.size := by omega); (try have hk1_2 : w.heap.size + 1 + 1 < w1.heap.size := by omega); (try have hk1_3 : w.heap.size + 1 + 1 + 1 < w1.heap.size := by omega); (try have hk1_4 : wr.heap.size < w1.heap.size := by omega); (try have hk1_5 : wr.heap.size + 1 < w1.heap.size := by omega)
      go_wp2_with fail; refine (l11Reduce_any _ _ _ _ hv).mono ?_; rintro e w2 ⟨rfl, hb2⟩; obtain ⟨hc2, hf2, -, hB2⟩ := bcell hb2; have hz2 := hb2.size; (try simp at hz2); (try have hk2_0 : w.heap.size < w2.heap.size := by omega); (try have hk2_1 : w.heap.size + 1 < w2.heap.size := by omega); (try have hk2_2 : w.heap.size + 1 + 1 < w2.heap.size := by omega); (try have hk2_3 : w.heap.size + 1 + 1 + 1 < w2.heap.size := by omega); (try have hk2_4 : wr.heap.size < w2.heap.size := by omega); (try have hk2_5 : wr.heap.size + 1 < w2.heap.size := by omega); (try have hk2_6 : w1.heap.size < w2.heap.size := by omega); (try have hk2_7 : w1.heap.size + 1 < w2.heap.size := by omega)
      go_wp2_with fail
      go_ret2
      unfold RetFC
      rw [HF.out]
      exact ⟨_, rfl, Own.nil _ _ _ _ _, (by repeat' (first | (with_reducible exact Below.refl _ _) | (with_reducible assumption) | (with_reducible refine Below.setCell ?_ ?_ _) | (with_reducible refine Below.alloc ?_ ?_ _) | (with_reducible refine Below.drew ?_) | (with_reducible refine below_drewN ?_ _) | (with_reducible refine Below.trans ?_ (Below.mono (by with_reducible assumption) ?_)) | go_size | (simp at *; omega)))⟩
    · have HF : Hid (fcR a b c = olF (cyR (rdR a b c).1)) := Lib.hid (by simp [fcR, hv, hs])
      have HK := Lib.hid (rdR_keeps hv hs)
      go_enter Tryd.func14, Tryd.ntmps14
      go_wp2_with fail; refine (l11Ok_any _ _ _ _).mono ?_; rintro e w1 ⟨rfl, hb1⟩; obtain ⟨hc1, hf1, -, hB1⟩ := bcell hb1; have hz1 := hb1.size; (try simp at hz1); (try have hk1_0 : w.heap.size < w1.heap.size := by omega); (try have hk1_1 : w.heap.size + 1 < w1.heap.size := by omega); (try have hk1_2 : w.heap.size + 1 + 1 < w1.heap.size := by omega); (try have hk1_3 : w.heap.size + 1 + 1 + 1 < w1.heap.size := by omega); (try have hk1_4 : wr.heap.size < w1.heap.size := by omega); (try have hk1_5 : wr.heap.size + 1 < w1.heap.size := by omega)
      go_wp2_with fail; refine (l11Reduce_any _ _ _ _ hv).mono ?_; rintro e w2 ⟨rfl, hb2⟩; obtain ⟨hc2, hf2, -, hB2⟩ := bcell hb2; have hz2 := hb2.size; (try simp at hz2); (try have hk2_0 : w.heap.size < w2.heap.size := by omega); (try have hk2_1 : w.heap.size + 1 < w2.heap.size := by omega); (try have hk2_2 : w.heap.size + 1 + 1 < w2.heap.size := by omega); (try have hk2_3 : w.heap.size + 1 + 1 + 1 < w2.heap.size := by omega); (try have hk2_4 : wr.heap.size < w2.heap.size := by omega); (try have hk2_5 : wr.heap.size + 1 < w2.heap.size := by omega); (try have hk2_6 : w1.heap.size < w2.heap.size := by omega); (try have hk2_7 : w1.heap.size + 1 < w2.heap.size := by omega)
      go_wp2_with fail
      refine (l11Cycle_any (rdR a b c).1 _ HK.out.2.1).mono ?_
      intro e w3 hr
      unfold RetFO at hr
      rcases hr with ⟨L, v, hL, rfl, ho, hb3⟩ | ⟨hL, rfl, hb3⟩
      · have HL := Lib.hid hL
        have HO := Lib.hid ho
        clear hL ho
        have hb4 : Below w.heap.size w w3 := (by repeat' (first | (with_reducible exact Below.refl _ _) | (with_reducible assumption) | (with_reducible refine Below.setCell ?_ ?_ _) | (with_reducible refine Below.alloc ?_ ?_ _) | (with_reducible refine Below.drew ?_) | (with_reducible refine below_drewN ?_ _) | (with_reducible refine Below.trans ?_ (Below.mono (by with_reducible assumption) ?_)) | go_size | (simp at *; omega)))
        have hs4 : w.heap.size ≤ w2.heap.size := by omega
        go_wp2_with fail
        go_ret2
        unfold RetFC
        rw [HF.out, HL.out]
        exact ⟨_, rfl, HO.out.mono (by simp; omega), hb4⟩
      · have HL := Lib.hid hL
        clear hL
        have hb4 : Below w.heap.size w w3 := (by repeat' (first | (with_reducible exact Below.refl _ _) | (with_reducible assumption) | (with_reducible refine Below.setCell ?_ ?_ _) | (with_reducible refine Below.alloc ?_ ?_ _) | (with_reducible refine Below.drew ?_) | (with_reducible refine below_drewN ?_ _) | (with_reducible refine Below.trans ?_ (Below.mono (by with_reducible assumption) ?_)) | go_size | (simp at *; omega)))
        go_wp2_with fail
        go_ret2
        unfold RetFC
        rw [HF.out, HL.out]
        exact ⟨_, rfl, Own.nil _ _ _ _ _, hb4⟩
theorem reduceForm_is {a b c : Int} (w : World) {q : Fm × Int × Int} (h : reR a b c = q) :
    Calls Tryd.prog 45 #[.agg #[.int .i64 a, .int .i64 b, .int .i64 c]] w fun e w' => e = .returned (.tuple #[.agg #[.int .i64 q.1.a, .int .i64 q.1.b, .int .i64 q.1.c], .int .i64 q.2.1, .int .i64 q.2.2]) ∧ Below w.heap.size w w' := by
  subst h
  exact reduceForm_any _ _ _ _
theorem new_cells2 (w : World) (o : Obj) (cs : Array Value) (T : TypeId) (l : List Value) (hl : cs.toList = l) : ∀ j u, l[j]? = some u → ((w.alloc o).alloc (.cells cs T)).cell? ((⟨w.heap.size + 1, 0, none⟩ : Addr).add j) = some u := by
  have h := new_cells (w.alloc o) cs T l hl
  simpa using h
theorem iFormCycle_any (a b c : Int) (w : World) :
    Calls Tryd.prog 25 #[.agg #[.int .i64 a, .int .i64 b, .int .i64 c]] w (RetFC w (fcR a b c).1 (fcR a b c).2) := by
  cases hv : vF a b c
  · have HF : Hid (fcR a b c = ([], 1)) := Lib.hid (by simp [fcR, hv])
    have HQ : Hid (reR a b c = (zF, 0, 1)) := Lib.hid (by simp [reR, hv])
    go_enter Tryd.func25, Tryd.ntmps25
    go_wp2_with fail; refine (reduceForm_is _ HQ.out).mono ?_; rintro e w1 ⟨rfl, hb1⟩; obtain ⟨hc1, hf1, -, hB1⟩ := bcell hb1; have hz1 := hb1.size; (try simp at hz1); (try have hk1_0 : w.heap.size < w1.heap.size := by omega); (try have hk1_1 : w.heap.size + 1 < w1.heap.size := by omega); (try have hk1_2 : w.heap.size + 1 + 1 < w1.heap.size := by omega); (try have hk1_3 : w.heap.size + 1 + 1 + 1 < w1.heap.size := by omega); (try have hk1_4 : wr.heap.size < w1.heap.size := by omega); (try have hk1_5 : wr.heap.size + 1 < w1.heap.size := by omega)
    go_wp2_with fail
    go_ret2
    unfold RetFC
    rw [HF.out]
    exact ⟨_, rfl, Own.nil _ _ _ _ _, (by repeat' (first | (with_reducible exact Below.refl _ _) | (with_reducible assumption) | (with_reducible refine Below.setCell ?_ ?_ _) | (with_reducible refine Below.alloc ?_ ?_ _) | (with_reducible refine Below.drew ?_) | (with_reducible refine below_drewN ?_ _) | (with_reducible refine Below.trans ?_ (Below.mono (by with_reducible assumption) ?_)) | go_size | (simp at *; omega)))⟩
  · cases hs : (rdR a b c).2.2
    · have HF : Hid (fcR a b c = ([], 5)) := Lib.hid (by simp [fcR, hv, hs])
      have HQ : Hid (reR a b c = (zF, 0, 5)) := Lib.hid (by simp [reR, hv, hs])
      go_enter Tryd.func25, Tryd.ntmps25
      go_wp2_with fail; refine (reduceForm_is _ HQ.out).mono ?_; rintro e w1 ⟨rfl, hb1⟩; obtain ⟨hc1, hf1, -, hB1⟩ := bcell hb1; have hz1 := hb1.size; (try simp at hz1); (try have hk1_0 : w.heap.size < w1.heap.size := by omega); (try have hk1_1 : w.heap.size + 1 < w1.heap.size := by omega); (try have hk1_2 : w.heap.size + 1 + 1 < w1.heap.size := by omega); (try have hk1_3 : w.heap.size + 1 + 1 + 1 < w1.heap.size := by omega); (try have hk1_4 : wr.heap.size < w1.heap.size := by omega); (try have hk1_5 : wr.heap.size + 1 < w1.heap.size := by omega)
      go_wp2_with fail
      go_ret2
      unfold RetFC
      rw [HF.out]
      exact ⟨_, rfl, Own.nil _ _ _ _ _, (by repeat' (first | (with_reducible exact Below.refl _ _) | (with_reducible assumption) | (with_reducible refine Below.setCell ?_ ?_ _) | (with_reducible refine Below.alloc ?_ ?_ _) | (with_reducible refine Below.drew ?_) | (with_reducible refine below_drewN ?_ _) | (with_reducible refine Below.trans ?_ (Below.mono (by with_reducible assumption) ?_)) | go_size | (simp at *; omega)))⟩
    · have HF : Hid (fcR a b c = olF (cyR (rdR a b c).1)) := Lib.hid (by simp [fcR, hv, hs])
      have HQ : Hid (reR a b c = ((rdR a b c).1, (rdR a b c).2.1, 0)) := Lib.hid (by simp [reR, hv, hs])
      obtain ⟨k1, k2, k3⟩ := rdR_keeps hv hs
      obtain ⟨a1, b1, c1⟩ := vF_in hv
      generalize (rdR a b c).1 = f at *
      generalize (rdR a b c).2.1 = st at *
      by_cases hd : dF a b c < 0
      · have HR : Hid (cyR f = some [f]) := Lib.hid (by unfold cyR; rw [if_pos (by omega)])
        clear k1 k2 k3 hv
        go_enter Tryd.func25, Tryd.ntmps25
        go_wp2_with fail; refine (reduceForm_is _ HQ.out).mono ?_; rintro e w1 ⟨rfl, hb1⟩; obtain ⟨hc1, hf1, -, hB1⟩ := bcell hb1; have hz1 := hb1.size; (try simp at hz1); (try have hk1_0 : w.heap.size < w1.heap.size := by omega); (try have hk1_1 : w.heap.size + 1 < w1.heap.size := by omega); (try have hk1_2 : w.heap.size + 1 + 1 < w1.heap.size := by omega); (try have hk1_3 : w.heap.size + 1 + 1 + 1 < w1.heap.size := by omega); (try have hk1_4 : wr.heap.size < w1.heap.size := by omega); (try have hk1_5 : wr.heap.size + 1 < w1.heap.size := by omega)
        go_wp2_with fail
        refine (disc_any _ _ _ _ a1 b1 c1).mono ?_
        rintro e w2 ⟨rfl, hb2⟩
        have HO := Lib.hid ((own_lit (w := w1.alloc (.cells #[.int .i64 f.a, .int .i64 f.b, .int .i64 f.c] 25)) (B := w.heap.size) f (by simp; omega)).below hb2)
        have hbel : Below w.heap.size w w2 := (by repeat' (first | (with_reducible exact Below.refl _ _) | (with_reducible assumption) | (with_reducible refine Below.setCell ?_ ?_ _) | (with_reducible refine Below.alloc ?_ ?_ _) | (with_reducible refine Below.drew ?_) | (with_reducible refine below_drewN ?_ _) | (with_reducible refine Below.trans ?_ (Below.mono (by with_reducible assumption) ?_)) | go_size | (simp at *; omega)))
        go_wp2_with fail
        go_ret2
        unfold RetFC
        rw [HF.out, HR.out]
        refine ⟨_, rfl, ?_, hbel⟩
        have h := HO.out
        simp only [World.size_alloc] at h
        exact h
      · have HR : Hid (cyF f 1000 (stp f) [f] = cyR f) := Lib.hid (by unfold cyR; rw [if_neg (by omega)])
        have HV := Lib.hid k2
        clear k1 k2 k3 hv
        generalize cyR f = R at *
        obtain ⟨i0', hi, hz0, hz1, hz2⟩ := info_parts infoF
        have HI := Lib.hid (And.intro hi (And.intro hz0 (And.intro hz1 hz2)))
        clear hi hz0 hz1 hz2
        have hd' : (dF a b c < 0) = False := eq_false hd
        go_enter Tryd.func25, Tryd.ntmps25
        go_wp2_with fail; refine (reduceForm_is _ HQ.out).mono ?_; rintro e w1 ⟨rfl, hb1⟩; obtain ⟨hc1, hf1, -, hB1⟩ := bcell hb1; have hz1 := hb1.size; (try simp at hz1); (try have hk1_0 : w.heap.size < w1.heap.size := by omega); (try have hk1_1 : w.heap.size + 1 < w1.heap.size := by omega); (try have hk1_2 : w.heap.size + 1 + 1 < w1.heap.size := by omega); (try have hk1_3 : w.heap.size + 1 + 1 + 1 < w1.heap.size := by omega); (try have hk1_4 : wr.heap.size < w1.heap.size := by omega); (try have hk1_5 : wr.heap.size + 1 < w1.heap.size := by omega)
        go_wp2_with fail
        refine (disc_any _ _ _ _ a1 b1 c1).mono ?_
        rintro e w2 ⟨rfl, hb2⟩
        have ho := ((own_lit (w := w1.alloc (.cells #[.int .i64 f.a, .int .i64 f.b, .int .i64 f.c] 25)) (B := w1.heap.size + 1) f (by simp)).below hb2)
        simp only [World.size_alloc] at ho
        have HO := Lib.hid ho
        have hfw : heapAt w2 w1.heap.size = some (.cells #[.int .i64 f.a, .int .i64 f.b, .int .i64 f.c] 25 (0, 0)) := by
          have := hb2.block w1.heap.size (by simp; omega)
          exact this.trans (by show heapAt _ _ = _; simp)
        have hbel : Below w.heap.size w w2 := (by repeat' (first | (with_reducible exact Below.refl _ _) | (with_reducible assumption) | (with_reducible refine Below.setCell ?_ ?_ _) | (with_reducible refine Below.alloc ?_ ?_ _) | (with_reducible refine Below.drew ?_) | (with_reducible refine below_drewN ?_ _) | (with_reducible refine Below.trans ?_ (Below.mono (by with_reducible assumption) ?_)) | go_size | (simp at *; omega)))
        clear ho
        go_wp2_with fail
        generalize hbf : w1.heap.size = bf at *
        have hbf0 : w.heap.size < bf := by omega
        clear hb1 hc1 hf1 hB1 hb2 hbf
        go_loopg [7] 1000 (fun k v wr => ∃ (y : Fm) (L : List Fm) (n : Nat), n + k = 1000 ∧ 1 ≤ k ∧ Hid (L.length = n + 1) ∧ Hid (L[n]? = some y) ∧ Hid (OwnF wr (bf + 1) v L) ∧ Hid (vFm y = true) ∧ Hid (cyF f k (stp y) L = R) ∧
          heapAt wr bf = some (.cells #[.int .i64 f.a, .int .i64 f.b, .int .i64 f.c] 25 (0, 0)) ∧ Below w.heap.size w wr)
        case atStart => exact ⟨f, [f], 0, by omega, by omega, Lib.hid rfl, Lib.hid rfl, HO, HV, HR, hfw, hbel⟩
        case round =>
          obtain ⟨y, L, n, hnk, hk, HN, HY, HP, HVy, HC, hf0, hbel2⟩ := hrel
          clear hfw hbel
          obtain ⟨y1, y2, y3⟩ := vF_in HVy.out
          have y0 := vF_c HVy.out
          have hs2 := hbel2.size
          obtain ⟨g, cap, hg⟩ : ∃ g cap, u7 = .slice (some ⟨g, 0, none⟩) (n + 1) cap := by
            rcases HP.out.shape with ⟨h, _⟩ | ⟨_, g, cap, h, _⟩
            · have := HN.out
              rw [h] at this
              simp at this
            · exact ⟨g, cap, by rw [h, HN.out]⟩
          subst hg
          obtain ⟨z1, z2, z3⟩ := OwnF.cells (by have h := HP.out; rw [← HN.out] at h; exact h) n (by have := HN.out; omega)
          have ey := (List.getElem?_eq_some_iff.1 HY.out).2
          rw [ey] at z1 z2 z3
          clear ey
          obtain ⟨q0, q1, q2, q3, q4, q5, q6⟩ := blk3 hf0
          have i0 : (0 : Int) ≤ (n : Int) := by omega
          have e1 := eqlF
          have e2 := guardF
          obtain ⟨k', rfl⟩ : ∃ k', gk = k' + 1 := ⟨gk - 1, by omega⟩
          cases hsv : stepV y.a y.b y.c
          · have hne : eqFm (stp y) f = false := by
              cases h : eqFm (stp y) f
              · rfl
              · have := eqFm_iff.1 h
                have h2 : vFm (stp y) = false := hsv
                rw [this, HV.out] at h2
                cases h2
            have HE : Hid (R = none) := Lib.hid (HC.out.symm.trans (cy_bad hne hsv))
            clear hne
            go_wp2_with fail; refine (stepForm_any _ _ _ _ y1 y2 y3 y0).mono ?_; rintro e w5 ⟨rfl, hb5⟩; obtain ⟨hc5, hf5, -, hB5⟩ := bcell hb5; have hz5 := hb5.size; (try simp at hz5); (try have hk5_0 : w.heap.size < w5.heap.size := by omega); (try have hk5_1 : w.heap.size + 1 < w5.heap.size := by omega); (try have hk5_2 : w.heap.size + 1 + 1 < w5.heap.size := by omega); (try have hk5_3 : w.heap.size + 1 + 1 + 1 < w5.heap.size := by omega); (try have hk5_4 : wr.heap.size < w5.heap.size := by omega); (try have hk5_5 : wr.heap.size + 1 < w5.heap.size := by omega); (try have hk5_6 : w1.heap.size < w5.heap.size := by omega); (try have hk5_7 : w1.heap.size + 1 < w5.heap.size := by omega); (try have hk5_8 : w2.heap.size < w5.heap.size := by omega); (try have hk5_9 : w2.heap.size + 1 < w5.heap.size := by omega); (try have hk5_10 : w3.heap.size < w5.heap.size := by omega); (try have hk5_11 : w3.heap.size + 1 < w5.heap.size := by omega); (try have hk5_12 : w4.heap.size < w5.heap.size := by omega); (try have hk5_13 : w4.heap.size + 1 < w5.heap.size := by omega)
            go_wp2_with fail
            go_ret2
            unfold RetFC
            rw [HF.out, HE.out]
            exact ⟨_, rfl, Own.nil _ _ _ _ _, (by repeat' (first | (with_reducible exact Below.refl _ _) | (with_reducible assumption) | (with_reducible refine Below.setCell ?_ ?_ _) | (with_reducible refine Below.alloc ?_ ?_ _) | (with_reducible refine Below.drew ?_) | (with_reducible refine below_drewN ?_ _) | (with_reducible refine Below.trans ?_ (Below.mono (by with_reducible assumption) ?_)) | go_size | (simp at *; omega)))⟩
          · obtain ⟨x, hx⟩ : ∃ x, stepF y.a y.b y.c = x := ⟨_, rfl⟩
            have HX := Lib.hid hx
            have SF := stepForm_any y.a y.b y.c wr y1 y2 y3 y0
            rw [hx, hsv] at SF
            have HVx : Hid (vFm x = true) := Lib.hid (by rw [← hx]; exact hsv)
            clear hsv hx
            cases he : eq6 x.a x.b x.c f.a f.b f.c
            · by_cases hfull : n = 999
              · have hk0 : k' = 0 := by omega
                have HE : Hid (R = none) := Lib.hid (by rw [← HC.out, show stp y = x from HX.out, hk0]; exact cy_full he)
                have hl : ((n : Int) + 1 == 1000) = true := by simp; omega
                clear hfull hk0
                go_wp2_with fail; refine (SF).mono ?_; rintro e w5 ⟨rfl, hb5⟩; obtain ⟨hc5, hf5, -, hB5⟩ := bcell hb5; have hz5 := hb5.size; (try simp at hz5); (try have hk5_0 : w.heap.size < w5.heap.size := by omega); (try have hk5_1 : w.heap.size + 1 < w5.heap.size := by omega); (try have hk5_2 : w.heap.size + 1 + 1 < w5.heap.size := by omega); (try have hk5_3 : w.heap.size + 1 + 1 + 1 < w5.heap.size := by omega); (try have hk5_4 : wr.heap.size < w5.heap.size := by omega); (try have hk5_5 : wr.heap.size + 1 < w5.heap.size := by omega); (try have hk5_6 : w1.heap.size < w5.heap.size := by omega); (try have hk5_7 : w1.heap.size + 1 < w5.heap.size := by omega); (try have hk5_8 : w2.heap.size < w5.heap.size := by omega); (try have hk5_9 : w2.heap.size + 1 < w5.heap.size := by omega); (try have hk5_10 : w3.heap.size < w5.heap.size := by omega); (try have hk5_11 : w3.heap.size + 1 < w5.heap.size := by omega); (try have hk5_12 : w4.heap.size < w5.heap.size := by omega); (try have hk5_13 : w4.heap.size + 1 < w5.heap.size := by omega)
                have hbf5 : bf < w5.heap.size := by omega
                go_wp2_with fail
                go_ret2
                unfold RetFC
                rw [HF.out, HE.out]
                exact ⟨_, rfl, Own.nil _ _ _ _ _, (by repeat' (first | (with_reducible exact Below.refl _ _) | (with_reducible assumption) | (with_reducible refine Below.setCell ?_ ?_ _) | (with_reducible refine Below.alloc ?_ ?_ _) | (with_reducible refine Below.drew ?_) | (with_reducible refine below_drewN ?_ _) | (with_reducible refine Below.trans ?_ (Below.mono (by with_reducible assumption) ?_)) | go_size | (simp at *; omega)))⟩
              · have hl : ((n : Int) + 1 == 1000) = false := by simp; omega
                have HE : Hid (cyF f k' (stp x) (L ++ [x]) = R) := Lib.hid (by rw [← HC.out, show stp y = x from HX.out]; exact (cy_go he HVx.out).symm)
                have hk1 : 1 ≤ k' := by omega
                clear hfull
                go_wp2_with fail; refine (SF).mono ?_; rintro e w5 ⟨rfl, hb5⟩; obtain ⟨hc5, hf5, -, hB5⟩ := bcell hb5; have hz5 := hb5.size; (try simp at hz5); (try have hk5_0 : w.heap.size < w5.heap.size := by omega); (try have hk5_1 : w.heap.size + 1 < w5.heap.size := by omega); (try have hk5_2 : w.heap.size + 1 + 1 < w5.heap.size := by omega); (try have hk5_3 : w.heap.size + 1 + 1 + 1 < w5.heap.size := by omega); (try have hk5_4 : wr.heap.size < w5.heap.size := by omega); (try have hk5_5 : wr.heap.size + 1 < w5.heap.size := by omega); (try have hk5_6 : w1.heap.size < w5.heap.size := by omega); (try have hk5_7 : w1.heap.size + 1 < w5.heap.size := by omega); (try have hk5_8 : w2.heap.size < w5.heap.size := by omega); (try have hk5_9 : w2.heap.size + 1 < w5.heap.size := by omega); (try have hk5_10 : w3.heap.size < w5.heap.size := by omega); (try have hk5_11 : w3.heap.size + 1 < w5.heap.size := by omega); (try have hk5_12 : w4.heap.size < w5.heap.size := by omega); (try have hk5_13 : w4.heap.size + 1 < w5.heap.size := by omega)
                have HP5 := Lib.hid (HP.out.below hb5)
                have hbel5 : Below w.heap.size w w5 := (by repeat' (first | (with_reducible exact Below.refl _ _) | (with_reducible assumption) | (with_reducible refine Below.setCell ?_ ?_ _) | (with_reducible refine Below.alloc ?_ ?_ _) | (with_reducible refine Below.drew ?_) | (with_reducible refine below_drewN ?_ _) | (with_reducible refine Below.trans ?_ (Below.mono (by with_reducible assumption) ?_)) | go_size | (simp at *; omega)))
                have hs5 := hbel5.size
                have hf5 : heapAt w5 bf = some (.cells #[.int .i64 f.a, .int .i64 f.b, .int .i64 f.c] 25 (0, 0)) := (hb5.block _ q0).trans hf0
                have hbf5 : bf < w5.heap.size := blk_lt hf5
                have hLn : L.length ≤ 1001 := by have := HN.out; omega
                obtain ⟨hi, hz0, hz1, hz2⟩ := HI.out
                go_wp2_with (at_builtin; refine wpList_append_own _ rfl _ _ 33 rfl (bf + 1) 25 i0' (.agg #[.int .i64 0, .int .i64 0, .int .i64 0]) 3 24 Tryd.underlying33 hi hz0 hz1 hz2 rfl (by decide) _ _ _ rfl (World.ownsRow.alloc (World.ownsRow.alloc HP5.out _) _) ⟨w5.heap.size + 1, 0, none⟩ 1 1 [.int .i64 x.a, .int .i64 x.b, .int .i64 x.c] rfl rfl ?c1 ?c2 ?c3 ?c4 ?c5 ?_)
                case c1 => exact new_cells2 _ _ _ _ _ rfl
                case c2 => exact three_cells _ _ _
                case c3 => unfold maxLen; omega
                case c4 => omega
                case c5 => rw [World.size_alloc, World.size_alloc]; omega
                intro v' w3 hown' hgrow hnn
                have hnb : Value.ownBlock (.slice (some ⟨g, 0, none⟩) (n + 1) cap) ≠ some bf := own_ne HP5.out (.inl (by omega))
                have hf3 : heapAt w3 bf = some (.cells #[.int .i64 f.a, .int .i64 f.b, .int .i64 f.c] 25 (0, 0)) := by rw [grown_at hgrow hnb (by simp; omega), heapAt_old (by simp; omega), heapAt_old hbf5]; exact hf5
                have HN3 := Lib.hid (app_one (w := w) (v := v') (f := x) hown')
                have hb3 : Below w.heap.size w w3 := Below.grown (Below.alloc (Below.alloc hbel5 (by omega) _) (by simp; omega) _) hgrow (by rw [World.size_alloc, World.size_alloc]; omega) (fun k hk => by have := (HP5.out.lt k hk).1; omega)
                clear hown' hgrow hnn hi hz0 hz1 hz2 hnb hb5 hc5 hf5 hB5
                go_wp2
                go_roundg k'
                case measure => omega
                case rel => exact ⟨x, L ++ [x], n + 1, by omega, by omega, Lib.hid (by rw [List.length_append, HN.out]; rfl), Lib.hid (by rw [List.getElem?_append_right (by rw [HN.out]; omega), HN.out]; simp), HN3, HVx, HE, hf3, hb3⟩
            · have HE : Hid (R = some L) := Lib.hid (by rw [← HC.out, show stp y = x from HX.out]; exact cy_eq he)
              go_wp2_with fail; refine (SF).mono ?_; rintro e w5 ⟨rfl, hb5⟩; obtain ⟨hc5, hf5, -, hB5⟩ := bcell hb5; have hz5 := hb5.size; (try simp at hz5); (try have hk5_0 : w.heap.size < w5.heap.size := by omega); (try have hk5_1 : w.heap.size + 1 < w5.heap.size := by omega); (try have hk5_2 : w.heap.size + 1 + 1 < w5.heap.size := by omega); (try have hk5_3 : w.heap.size + 1 + 1 + 1 < w5.heap.size := by omega); (try have hk5_4 : wr.heap.size < w5.heap.size := by omega); (try have hk5_5 : wr.heap.size + 1 < w5.heap.size := by omega); (try have hk5_6 : w1.heap.size < w5.heap.size := by omega); (try have hk5_7 : w1.heap.size + 1 < w5.heap.size := by omega); (try have hk5_8 : w2.heap.size < w5.heap.size := by omega); (try have hk5_9 : w2.heap.size + 1 < w5.heap.size := by omega); (try have hk5_10 : w3.heap.size < w5.heap.size := by omega); (try have hk5_11 : w3.heap.size + 1 < w5.heap.size := by omega); (try have hk5_12 : w4.heap.size < w5.heap.size := by omega); (try have hk5_13 : w4.heap.size + 1 < w5.heap.size := by omega)
              have hbf5 : bf < w5.heap.size := by omega
              go_wp2_with fail
              go_ret2
              unfold RetFC
              rw [HF.out, HE.out]
              exact ⟨_, rfl, ((HP.out.below hb5).mono (by omega) |> fun h => own_alloc h _), (by repeat' (first | (with_reducible exact Below.refl _ _) | (with_reducible assumption) | (with_reducible refine Below.setCell ?_ ?_ _) | (with_reducible refine Below.alloc ?_ ?_ _) | (with_reducible refine Below.drew ?_) | (with_reducible refine below_drewN ?_ _) | (with_reducible refine Below.trans ?_ (Below.mono (by with_reducible assumption) ?_)) | go_size | (simp at *; omega)))⟩
end Go.Proofs.YtolbihoeheogkaaDoor
