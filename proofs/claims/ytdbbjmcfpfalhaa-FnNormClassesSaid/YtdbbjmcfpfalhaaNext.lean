/- The next solution of a class: both packages. -/
import Derived.Test.YtdbbjmcfpfalhaaLSol
namespace Go.Proofs.Ytdbbjmcfpfalhaa
open Go.ChangeShapes Go.WideShapes Go.ChangeAt Go.RowKit
set_option linter.unusedVariables false
set_option maxHeartbeats 8000000
set_option maxRecDepth 20000
/-- The code of a number and of pairs that are all plain or not. -/
def pcC (d : Int) (b : Bool) : Int := if inR d 2 10000 = true then (if sqB d = true then 6 else (if b = true then 0 else 1)) else 2
theorem pcC_range {d : Int} {b : Bool} (h : inR d 2 10000 = false) : pcC d b = 2 := by unfold pcC; rw [if_neg (by rw [h]; decide)]
theorem pcC_sq {d : Int} {b : Bool} (h : inR d 2 10000 = true) (h2 : sqB d = true) : pcC d b = 6 := by unfold pcC; rw [if_pos h, if_pos h2]
theorem pcC_no {d : Int} (h : inR d 2 10000 = true) (h2 : sqB d = false) : pcC d false = 1 := by unfold pcC; rw [if_pos h, if_neg (by rw [h2]; decide)]; rfl
theorem pcC_ok {d : Int} (h : inR d 2 10000 = true) (h2 : sqB d = false) : pcC d true = 0 := by unfold pcC; rw [if_pos h, if_neg (by rw [h2]; decide)]; rfl
theorem pcC_zero {d : Int} {b : Bool} (h : pcC d b = 0) : (2 ≤ d ∧ d ≤ 10000) ∧ sqB d = false ∧ b = true := by
  unfold pcC at h
  split at h
  · rename_i h1
    split at h
    · simp at h
    · rename_i h2
      split at h
      · rename_i h3; exact ⟨inR_iff.1 h1, by simpa using h2, h3⟩
      · simp at h
  · simp at h
theorem hpP1 {W : World} {b : Nat} {x y : Int} (h : heapAt W b = some (.cells #[.int .i64 x, .int .i64 y] 25 (0, 0))) : OwnP W 0 (.slice (some ⟨b, 0, none⟩) 1 1) [⟨x, y⟩] :=
  ⟨rfl, .inr ⟨b, 1, _, rfl, by omega, h, by simp, by unfold maxLen; omega, rfl, rfl⟩⟩
theorem hpP2 {W : World} {b : Nat} {x y u v : Int} (h : heapAt W b = some (.cells #[.int .i64 x, .int .i64 y, .int .i64 u, .int .i64 v] 25 (0, 0))) : OwnP W 0 (.slice (some ⟨b, 0, none⟩) 2 2) [⟨x, y⟩, ⟨u, v⟩] :=
  ⟨rfl, .inr ⟨b, 2, _, rfl, by omega, h, by simp, by unfold maxLen; omega, rfl, rfl⟩⟩
/-- Are all pairs from i on plain? -/
def plF (d : Int) (L : List Pp) (i : Nat) : Bool := (L.drop i).all fun p => pOk d p.x p.y
theorem plF_end {d : Int} {L : List Pp} {i : Nat} (h : L.length ≤ i) : plF d L i = true := by
  unfold plF
  rw [List.drop_eq_nil_of_le h]
  rfl
theorem plF_step {d : Int} {L : List Pp} {i : Nat} (h : i < L.length) : plF d L i = (pOk d (L[i]).x (L[i]).y && plF d L (i + 1)) := by
  unfold plF
  rw [List.drop_eq_getElem_cons h, List.all_cons]
theorem checkPell_any (d : Int) (b : Nat) (L : List Pp) (B : Nat) (w : World) (h : OwnP w B (.slice (some ⟨b, 0, none⟩) L.length L.length) L) (hl : L.length ≤ 1000) :
    Calls Try.prog 58 #[.int .i64 d, .slice (some ⟨b, 0, none⟩) L.length L.length] w fun e w' => e = .returned (.int .i64 (pcC d (plF d L 0))) ∧ Below w.heap.size w w' := by
  cases h1 : inR d 2 10000
  · have HF := Lib.hid (pcC_range (b := plF d L 0) h1)
    have HI := Lib.hid h1
    rw [HF.out]
    clear h1
    go_enter Try.func58, Try.ntmps58
    go_wp2_with (go_at_call 49; refine (within_is HI.out _).mono ?_; rintro e w1 ⟨rfl, rfl⟩)
    go_ret
    exact ⟨rfl, (by repeat' (first | (with_reducible exact Below.refl _ _) | (with_reducible assumption) | (with_reducible refine Below.setCell ?_ ?_ _) | (with_reducible refine Below.alloc ?_ ?_ _) | (with_reducible refine Below.drew ?_) | (with_reducible refine below_drewN ?_ _) | (with_reducible refine Below.trans ?_ (Below.mono (by with_reducible assumption) ?_)) | go_size | (simp at *; omega)))⟩
  · have hd := inR_iff.1 h1
    have HI := Lib.hid h1
    cases h2 : sqB d
    · obtain ⟨R, hR⟩ : ∃ R, plF d L 0 = R := ⟨_, rfl⟩
      rw [hR]
      have HR := Lib.hid hR
      have HS := Lib.hid (by have h := isSquare_any d · (by omega); rw [h2] at h; exact h)
      have HO := Lib.hid h
      have F0 := Lib.hid (pcC_no h1 h2)
      have F1 := Lib.hid (pcC_ok h1 h2)
      have HP := Lib.hid (isPlainPair_any d · · · hd)
      clear hR h1 h2 h
      go_enter Try.func58, Try.ntmps58
      go_wp2_with (first | (go_at_call 49; refine (within_is HI.out _).mono ?_; rintro e w1 ⟨rfl, rfl⟩) | (go_at_call 67; refine (HS.out _).mono ?_; rintro e w1 ⟨rfl, rfl⟩))
      go_loopg [16] (L.length + 1) (fun k s wr => ∃ i : Nat, s = .int .i64 i ∧ i + k = L.length + 1 ∧ i ≤ L.length ∧ Hid (plF d L i = R) ∧ Below w.heap.size w wr)
      case atStart => exact ⟨0, rfl, by omega, by omega, HR, (by repeat' (first | (with_reducible exact Below.refl _ _) | (with_reducible assumption) | (with_reducible refine Below.setCell ?_ ?_ _) | (with_reducible refine Below.alloc ?_ ?_ _) | (with_reducible refine Below.drew ?_) | (with_reducible refine below_drewN ?_ _) | (with_reducible refine Below.trans ?_ (Below.mono (by with_reducible assumption) ?_)) | go_size | (simp at *; omega)))⟩
      case round =>
        obtain ⟨i, rfl, hik, hil, HY, hbel⟩ := hrel
        have hzr := hbel.size
        by_cases hlt : i < L.length
        · obtain ⟨c0, c1⟩ := OwnP.cells (HO.out.below hbel) i hlt
          have i0 : (0 : Int) ≤ (i : Int) := by omega
          have i1 : (i : Int) < (L.length : Int) := by omega
          have HT := Lib.hid (plF_step (d := d) hlt)
          generalize (L[i]).x = X at *
          generalize (L[i]).y = Y at *
          cases hp : pOk d X Y
          · have HP1 := Lib.hid (by have h := HP.out X Y; rw [hp] at h; exact h)
            have HF : Hid (pcC d R = 1) := Lib.hid (by rw [← HY.out, HT.out, hp, Bool.false_and]; exact F0.out)
            clear hp HT
            go_wp2_with (go_at_call 51; refine (HP1.out _).mono ?_; rintro e w1 ⟨rfl, hb1⟩; obtain ⟨hc1, hf1, -, hB1⟩ := bcell hb1; have hz1 := hb1.size; (try simp at hz1); (try have hk0 : w.heap.size < w1.heap.size := by omega); (try have hk1 : w.heap.size + 1 < w1.heap.size := by omega); (try have hk2 : w.heap.size + 1 + 1 < w1.heap.size := by omega))
            go_ret
            exact ⟨ret_int HF.out.symm, (by repeat' (first | (with_reducible exact Below.refl _ _) | (with_reducible assumption) | (with_reducible refine Below.setCell ?_ ?_ _) | (with_reducible refine Below.alloc ?_ ?_ _) | (with_reducible refine Below.drew ?_) | (with_reducible refine below_drewN ?_ _) | (with_reducible refine Below.trans ?_ (Below.mono (by with_reducible assumption) ?_)) | go_size | (simp at *; omega)))⟩
          · have HP1 := Lib.hid (by have h := HP.out X Y; rw [hp] at h; exact h)
            have HY2 : Hid (plF d L (i + 1) = R) := Lib.hid (by rw [← HY.out, HT.out, hp, Bool.true_and])
            clear hp HT HY
            go_wp2_with (go_at_call 51; refine (HP1.out _).mono ?_; rintro e w1 ⟨rfl, hb1⟩; obtain ⟨hc1, hf1, -, hB1⟩ := bcell hb1; have hz1 := hb1.size; (try simp at hz1); (try have hk0 : w.heap.size < w1.heap.size := by omega); (try have hk1 : w.heap.size + 1 < w1.heap.size := by omega); (try have hk2 : w.heap.size + 1 + 1 < w1.heap.size := by omega))
            go_roundg (gk - 1)
            case measure => omega
            case rel => exact ⟨i + 1, by go_num, by omega, by omega, HY2, (by repeat' (first | (with_reducible exact Below.refl _ _) | (with_reducible assumption) | (with_reducible refine Below.setCell ?_ ?_ _) | (with_reducible refine Below.alloc ?_ ?_ _) | (with_reducible refine Below.drew ?_) | (with_reducible refine below_drewN ?_ _) | (with_reducible refine Below.trans ?_ (Below.mono (by with_reducible assumption) ?_)) | go_size | (simp at *; omega)))⟩
        · have i1 : ¬ (i : Int) < (L.length : Int) := by omega
          have HF : Hid (pcC d R = 0) := Lib.hid (by rw [← HY.out, plF_end (by omega)]; exact F1.out)
          go_wp2
          go_ret
          exact ⟨ret_int HF.out.symm, (by repeat' (first | (with_reducible exact Below.refl _ _) | (with_reducible assumption) | (with_reducible refine Below.setCell ?_ ?_ _) | (with_reducible refine Below.alloc ?_ ?_ _) | (with_reducible refine Below.drew ?_) | (with_reducible refine below_drewN ?_ _) | (with_reducible refine Below.trans ?_ (Below.mono (by with_reducible assumption) ?_)) | go_size | (simp at *; omega)))⟩
    · have HF := Lib.hid (pcC_sq (b := plF d L 0) h1 h2)
      have HS := Lib.hid (by have h := isSquare_any d · (by omega); rw [h2] at h; exact h)
      rw [HF.out]
      clear h1 h2
      go_enter Try.func58, Try.ntmps58
      go_wp2_with (first | (go_at_call 49; refine (within_is HI.out _).mono ?_; rintro e w1 ⟨rfl, rfl⟩) | (go_at_call 67; refine (HS.out _).mono ?_; rintro e w1 ⟨rfl, rfl⟩))
      go_ret
      exact ⟨rfl, (by repeat' (first | (with_reducible exact Below.refl _ _) | (with_reducible assumption) | (with_reducible refine Below.setCell ?_ ?_ _) | (with_reducible refine Below.alloc ?_ ?_ _) | (with_reducible refine Below.drew ?_) | (with_reducible refine below_drewN ?_ _) | (with_reducible refine Below.trans ?_ (Below.mono (by with_reducible assumption) ?_)) | go_size | (simp at *; omega)))⟩
theorem checkPell1_any (d x y : Int) (b : Nat) (w : World) (h : heapAt w b = some (.cells #[.int .i64 x, .int .i64 y] 25 (0, 0))) :
    Calls Try.prog 58 #[.int .i64 d, .slice (some ⟨b, 0, none⟩) 1 1] w fun e w' => e = .returned (.int .i64 (pcC d (pOk d x y))) ∧ Below w.heap.size w w' := by
  have h2 := checkPell_any d b [⟨x, y⟩] 0 w (hpP1 h) (by simp)
  have e : plF d [⟨x, y⟩] 0 = pOk d x y := by simp [plF]
  rw [e] at h2
  exact h2
theorem checkPell2_any (d x y u v : Int) (b : Nat) (w : World) (h : heapAt w b = some (.cells #[.int .i64 x, .int .i64 y, .int .i64 u, .int .i64 v] 25 (0, 0))) :
    Calls Try.prog 58 #[.int .i64 d, .slice (some ⟨b, 0, none⟩) 2 2] w fun e w' => e = .returned (.int .i64 (pcC d (pOk d x y && pOk d u v))) ∧ Below w.heap.size w w' := by
  have h2 := checkPell_any d b [⟨x, y⟩, ⟨u, v⟩] 0 w (hpP2 h) (by simp)
  have e : plF d [⟨x, y⟩, ⟨u, v⟩] 0 = (pOk d x y && pOk d u v) := by simp [plF]
  rw [e] at h2
  exact h2
/-- The product of two plain pairs, and the code. -/
def muN (d ax ay bx b_ : Int) : Int × Int × Int := if muB d ax ay bx b_ = true then (muX d ax ay bx b_, muY ax ay bx b_, 0) else (0, 0, 5)
theorem muN_no {d ax ay bx b_ : Int} (h : muB d ax ay bx b_ = false) : muN d ax ay bx b_ = (0, 0, 5) := by unfold muN; rw [if_neg (by rw [h]; decide)]
theorem muN_yes {d ax ay bx b_ : Int} (h : muB d ax ay bx b_ = true) : muN d ax ay bx b_ = (muX d ax ay bx b_, muY ax ay bx b_, 0) := by unfold muN; rw [if_pos h]
theorem muR_yes {d ax ay bx b_ : Int} (h : muB d ax ay bx b_ = true) : muR d ax ay bx b_ = (muX d ax ay bx b_, muY ax ay bx b_) := by unfold muR; rw [if_pos h]
theorem iMul_ok (d ax ay bx b_ : Int) (w : World) (hd : 2 ≤ d ∧ d ≤ 10000) (hs : sqB d = false) (h1 : pOk d ax ay = true) (h2 : pOk d bx b_ = true) :
    Calls Try.prog 59 #[.int .i64 d, .agg #[.int .i64 ax, .int .i64 ay], .agg #[.int .i64 bx, .int .i64 b_]] w fun e w' => e = .returned (.tuple #[.agg #[.int .i64 (muN d ax ay bx b_).1, .int .i64 (muN d ax ay bx b_).2.1], .int .i64 (muN d ax ay bx b_).2.2]) ∧ Below w.heap.size w w' := by
  have CK := Lib.hid (by
    have h := fun b W => checkPell2_any d ax ay bx b_ b W
    rw [h1, h2, Bool.true_and, pcC_ok (inR_iff.2 hd) hs] at h
    exact h)
  have MU := Lib.hid (mulPairs_any d ax ay bx b_ · hd h1 h2)
  cases hm : muB d ax ay bx b_
  · rw [hm] at MU
    have HF := Lib.hid (muN_no hm)
    rw [HF.out]
    generalize muR d ax ay bx b_ = mr at *
    obtain ⟨m1, m2⟩ := mr
    clear hm h1 h2 hs
    go_enter Try.func59, Try.ntmps59
    go_wp2_with fail
    refine (CK.out _ _ ?hh).mono ?_
    case hh => exact (by simp (disch := (first | omega | (simp; done) | (simp; omega))) [*])
    rintro e w1 ⟨rfl, hb1⟩
    obtain ⟨hc1, hf1, -, hB1⟩ := bcell hb1; have hz1 := hb1.size; (try simp at hz1); (try have hk1_0 : w.heap.size < w1.heap.size := by omega); (try have hk1_1 : w.heap.size + 1 < w1.heap.size := by omega); (try have hk1_2 : w.heap.size + 1 + 1 < w1.heap.size := by omega); (try have hk1_3 : w.heap.size + 1 + 1 + 1 < w1.heap.size := by omega); (try have hk1_4 : wr.heap.size < w1.heap.size := by omega); (try have hk1_5 : wr.heap.size + 1 < w1.heap.size := by omega)
    go_wp2_with fail
    go_wp2_with fail; refine (MU.out _).mono ?_; rintro e w2 ⟨rfl, hb2⟩; obtain ⟨hc2, hf2, -, hB2⟩ := bcell hb2; have hz2 := hb2.size; (try simp at hz2); (try have hk2_0 : w.heap.size < w2.heap.size := by omega); (try have hk2_1 : w.heap.size + 1 < w2.heap.size := by omega); (try have hk2_2 : w.heap.size + 1 + 1 < w2.heap.size := by omega); (try have hk2_3 : w.heap.size + 1 + 1 + 1 < w2.heap.size := by omega); (try have hk2_4 : wr.heap.size < w2.heap.size := by omega); (try have hk2_5 : wr.heap.size + 1 < w2.heap.size := by omega); (try have hk2_6 : w1.heap.size < w2.heap.size := by omega); (try have hk2_7 : w1.heap.size + 1 < w2.heap.size := by omega)
    go_wp2_with fail
    apply body_row2 (w.heap.size + 1 + 1) 25 Try.results59 Try.underlying25 rfl rfl rfl; (case q => simp (disch := (first | omega | (simp; done) | (simp; omega))) [*]; try rfl); (case hi => kernel_rfl)
    exact ⟨rfl, (by repeat' (first | (with_reducible exact Below.refl _ _) | (with_reducible assumption) | (with_reducible refine Below.setCell ?_ ?_ _) | (with_reducible refine Below.alloc ?_ ?_ _) | (with_reducible refine Below.drew ?_) | (with_reducible refine below_drewN ?_ _) | (with_reducible refine Below.trans ?_ (Below.mono (by with_reducible assumption) ?_)) | go_size | (simp at *; omega)))⟩
  · rw [hm, muR_yes hm] at MU
    have HF := Lib.hid (muN_yes hm)
    rw [HF.out]
    generalize muX d ax ay bx b_ = mx at *
    generalize muY ax ay bx b_ = my at *
    clear hm h1 h2 hs
    go_enter Try.func59, Try.ntmps59
    go_wp2_with fail
    refine (CK.out _ _ ?hh).mono ?_
    case hh => exact (by simp (disch := (first | omega | (simp; done) | (simp; omega))) [*])
    rintro e w1 ⟨rfl, hb1⟩
    obtain ⟨hc1, hf1, -, hB1⟩ := bcell hb1; have hz1 := hb1.size; (try simp at hz1); (try have hk1_0 : w.heap.size < w1.heap.size := by omega); (try have hk1_1 : w.heap.size + 1 < w1.heap.size := by omega); (try have hk1_2 : w.heap.size + 1 + 1 < w1.heap.size := by omega); (try have hk1_3 : w.heap.size + 1 + 1 + 1 < w1.heap.size := by omega); (try have hk1_4 : wr.heap.size < w1.heap.size := by omega); (try have hk1_5 : wr.heap.size + 1 < w1.heap.size := by omega)
    go_wp2_with fail
    go_wp2_with fail; refine (MU.out _).mono ?_; rintro e w2 ⟨rfl, hb2⟩; obtain ⟨hc2, hf2, -, hB2⟩ := bcell hb2; have hz2 := hb2.size; (try simp at hz2); (try have hk2_0 : w.heap.size < w2.heap.size := by omega); (try have hk2_1 : w.heap.size + 1 < w2.heap.size := by omega); (try have hk2_2 : w.heap.size + 1 + 1 < w2.heap.size := by omega); (try have hk2_3 : w.heap.size + 1 + 1 + 1 < w2.heap.size := by omega); (try have hk2_4 : wr.heap.size < w2.heap.size := by omega); (try have hk2_5 : wr.heap.size + 1 < w2.heap.size := by omega); (try have hk2_6 : w1.heap.size < w2.heap.size := by omega); (try have hk2_7 : w1.heap.size + 1 < w2.heap.size := by omega)
    go_wp2_with fail
    apply body_row2 (w.heap.size + 1 + 1) 25 Try.results59 Try.underlying25 rfl rfl rfl; (case q => simp (disch := (first | omega | (simp; done) | (simp; omega))) [*]; try rfl); (case hi => kernel_rfl)
    exact ⟨rfl, (by repeat' (first | (with_reducible exact Below.refl _ _) | (with_reducible assumption) | (with_reducible refine Below.setCell ?_ ?_ _) | (with_reducible refine Below.alloc ?_ ?_ _) | (with_reducible refine Below.drew ?_) | (with_reducible refine below_drewN ?_ _) | (with_reducible refine Below.trans ?_ (Below.mono (by with_reducible assumption) ?_)) | go_size | (simp at *; omega)))⟩
theorem l09D_any (d : Int) (w : World) :
    Calls Try.prog 76 #[.int .i64 d] w fun e w' => e = .returned (.int .i64 (pcC d true)) ∧ w = w' := by
  cases h1 : inR d 2 10000
  · have HF := Lib.hid (pcC_range (b := true) h1)
    rw [HF.out]
    have IN := Lib.hid (by have h := in_any d 2 10000 ·; rw [h1] at h; exact h)
    clear h1
    go_enter Try.func76, Try.ntmps76
    go_wp2_with (go_at_call 47; refine (IN.out _).mono ?_; rintro e w1 ⟨rfl, rfl⟩)
    go_ret
    exact ⟨rfl, rfl⟩
  · have hd := inR_iff.1 h1
    have IN := Lib.hid (by have h := in_any d 2 10000 ·; rw [h1] at h; exact h)
    cases h2 : sqB d
    · have SQ := Lib.hid (by have h := l07Square_any d · (by omega); rw [h2] at h; exact h)
      have HF := Lib.hid (pcC_ok h1 h2)
      rw [HF.out]
      clear h1 h2
      go_enter Try.func76, Try.ntmps76
      go_wp2_with (first | (go_at_call 47; refine (IN.out _).mono ?_; rintro e w1 ⟨rfl, rfl⟩) | (go_at_call 64; refine (SQ.out _).mono ?_; rintro e w1 ⟨rfl, rfl⟩))
      go_ret
      exact ⟨rfl, rfl⟩
    · have SQ := Lib.hid (by have h := l07Square_any d · (by omega); rw [h2] at h; exact h)
      have HF := Lib.hid (pcC_sq (b := true) h1 h2)
      rw [HF.out]
      clear h1 h2
      go_enter Try.func76, Try.ntmps76
      go_wp2_with (first | (go_at_call 47; refine (IN.out _).mono ?_; rintro e w1 ⟨rfl, rfl⟩) | (go_at_call 64; refine (SQ.out _).mono ?_; rintro e w1 ⟨rfl, rfl⟩))
      go_ret
      exact ⟨rfl, rfl⟩
theorem pcC_true {d : Int} (h : pcC d true ≠ 0) (b : Bool) : pcC d b = pcC d true := by
  unfold pcC at h ⊢
  split
  · rename_i h1
    rw [if_pos h1] at h
    split
    · rfl
    · rename_i h2
      rw [if_neg h2] at h
      simp at h
  · rfl
theorem pcC_trueI {d : Int} (h : pcC d true = 0) : (2 ≤ d ∧ d ≤ 10000) ∧ sqB d = false := by
  obtain ⟨h1, h2, -⟩ := pcC_zero h
  exact ⟨h1, h2⟩
theorem pcC_bad {d : Int} (h : pcC d true = 0) : pcC d false = 1 := by
  obtain ⟨h1, h2⟩ := pcC_trueI h
  exact pcC_no (inR_iff.2 h1) h2
theorem l09Code_any (d x y : Int) (w : World) :
    Calls Try.prog 55 #[.int .i64 d, .agg #[.int .i64 x, .int .i64 y]] w fun e w' => e = .returned (.int .i64 (pcC d (pOk d x y))) ∧ Below w.heap.size w w' := by
  by_cases h0 : pcC d true = 0
  · obtain ⟨hd, hs⟩ := pcC_trueI h0
    have DD := Lib.hid (by have h := l09D_any d; rw [h0] at h; exact h)
    cases hp : pOk d x y
    · have OK := Lib.hid (by have h := l09Ok_any d x y · hd; rw [hp] at h; exact h)
      have HF := Lib.hid (pcC_bad h0)
      rw [HF.out]
      clear h0 hs hp
      go_enter Try.func55, Try.ntmps55
      go_wp2_with (go_at_call 76; refine (DD.out _).mono ?_; rintro e w1 ⟨rfl, rfl⟩)
      go_wp2_with fail; refine (OK.out _).mono ?_; rintro e w1 ⟨rfl, hb1⟩; obtain ⟨hc1, hf1, -, hB1⟩ := bcell hb1; have hz1 := hb1.size; (try simp at hz1); (try have hk1_0 : w.heap.size < w1.heap.size := by omega); (try have hk1_1 : w.heap.size + 1 < w1.heap.size := by omega); (try have hk1_2 : w.heap.size + 1 + 1 < w1.heap.size := by omega); (try have hk1_3 : w.heap.size + 1 + 1 + 1 < w1.heap.size := by omega); (try have hk1_4 : wr.heap.size < w1.heap.size := by omega); (try have hk1_5 : wr.heap.size + 1 < w1.heap.size := by omega)
      go_wp2_with fail
      go_ret
      exact ⟨rfl, (by repeat' (first | (with_reducible exact Below.refl _ _) | (with_reducible assumption) | (with_reducible refine Below.setCell ?_ ?_ _) | (with_reducible refine Below.alloc ?_ ?_ _) | (with_reducible refine Below.drew ?_) | (with_reducible refine below_drewN ?_ _) | (with_reducible refine Below.trans ?_ (Below.mono (by with_reducible assumption) ?_)) | go_size | (simp at *; omega)))⟩
    · have OK := Lib.hid (by have h := l09Ok_any d x y · hd; rw [hp] at h; exact h)
      have HF := Lib.hid h0
      rw [HF.out]
      clear h0 hs hp
      go_enter Try.func55, Try.ntmps55
      go_wp2_with (go_at_call 76; refine (DD.out _).mono ?_; rintro e w1 ⟨rfl, rfl⟩)
      go_wp2_with fail; refine (OK.out _).mono ?_; rintro e w1 ⟨rfl, hb1⟩; obtain ⟨hc1, hf1, -, hB1⟩ := bcell hb1; have hz1 := hb1.size; (try simp at hz1); (try have hk1_0 : w.heap.size < w1.heap.size := by omega); (try have hk1_1 : w.heap.size + 1 < w1.heap.size := by omega); (try have hk1_2 : w.heap.size + 1 + 1 < w1.heap.size := by omega); (try have hk1_3 : w.heap.size + 1 + 1 + 1 < w1.heap.size := by omega); (try have hk1_4 : wr.heap.size < w1.heap.size := by omega); (try have hk1_5 : wr.heap.size + 1 < w1.heap.size := by omega)
      go_wp2_with fail
      go_ret
      exact ⟨rfl, (by repeat' (first | (with_reducible exact Below.refl _ _) | (with_reducible assumption) | (with_reducible refine Below.setCell ?_ ?_ _) | (with_reducible refine Below.alloc ?_ ?_ _) | (with_reducible refine Below.drew ?_) | (with_reducible refine below_drewN ?_ _) | (with_reducible refine Below.trans ?_ (Below.mono (by with_reducible assumption) ?_)) | go_size | (simp at *; omega)))⟩
  · have HF := Lib.hid (pcC_true h0 (pOk d x y))
    rw [HF.out]
    have DD := Lib.hid (l09D_any d)
    generalize pcC d true = C at *
    have hb : (C == 0) = false := by simp [h0]
    go_enter Try.func55, Try.ntmps55
    go_wp2_with (go_at_call 76; refine (DD.out _).mono ?_; rintro e w1 ⟨rfl, rfl⟩)
    go_ret
    exact ⟨rfl, (by repeat' (first | (with_reducible exact Below.refl _ _) | (with_reducible assumption) | (with_reducible refine Below.setCell ?_ ?_ _) | (with_reducible refine Below.alloc ?_ ?_ _) | (with_reducible refine Below.drew ?_) | (with_reducible refine below_drewN ?_ _) | (with_reducible refine Below.trans ?_ (Below.mono (by with_reducible assumption) ?_)) | go_size | (simp at *; omega)))⟩
theorem sMul_ok (d ax ay bx b_ : Int) (w : World) (hd : 2 ≤ d ∧ d ≤ 10000) (hs : sqB d = false) (h1 : pOk d ax ay = true) (h2 : pOk d bx b_ = true) :
    Calls Try.prog 57 #[.int .i64 d, .agg #[.int .i64 ax, .int .i64 ay], .agg #[.int .i64 bx, .int .i64 b_]] w fun e w' => e = .returned (.tuple #[.agg #[.int .i64 (muN d ax ay bx b_).1, .int .i64 (muN d ax ay bx b_).2.1], .int .i64 (muN d ax ay bx b_).2.2]) ∧ Below w.heap.size w w' := by
  have C1 := Lib.hid (by have h := l09Code_any d ax ay; rw [h1, pcC_ok (inR_iff.2 hd) hs] at h; exact h)
  have C2 := Lib.hid (by have h := l09Code_any d bx b_; rw [h2, pcC_ok (inR_iff.2 hd) hs] at h; exact h)
  have MU := Lib.hid (l09Mul_any d ax ay bx b_ · hd h1 h2)
  cases hm : muB d ax ay bx b_
  · rw [hm] at MU
    have HF := Lib.hid (muN_no hm)
    rw [HF.out]
    generalize muX d ax ay bx b_ = mx at *
    generalize muY ax ay bx b_ = my at *
    clear hm h1 h2 hs
    go_enter Try.func57, Try.ntmps57
    go_wp2_with fail; refine (C1.out _).mono ?_; rintro e w1 ⟨rfl, hb1⟩; obtain ⟨hc1, hf1, -, hB1⟩ := bcell hb1; have hz1 := hb1.size; (try simp at hz1); (try have hk1_0 : w.heap.size < w1.heap.size := by omega); (try have hk1_1 : w.heap.size + 1 < w1.heap.size := by omega); (try have hk1_2 : w.heap.size + 1 + 1 < w1.heap.size := by omega); (try have hk1_3 : w.heap.size + 1 + 1 + 1 < w1.heap.size := by omega); (try have hk1_4 : wr.heap.size < w1.heap.size := by omega); (try have hk1_5 : wr.heap.size + 1 < w1.heap.size := by omega)
    go_wp2_with fail; refine (C2.out _).mono ?_; rintro e w2 ⟨rfl, hb2⟩; obtain ⟨hc2, hf2, -, hB2⟩ := bcell hb2; have hz2 := hb2.size; (try simp at hz2); (try have hk2_0 : w.heap.size < w2.heap.size := by omega); (try have hk2_1 : w.heap.size + 1 < w2.heap.size := by omega); (try have hk2_2 : w.heap.size + 1 + 1 < w2.heap.size := by omega); (try have hk2_3 : w.heap.size + 1 + 1 + 1 < w2.heap.size := by omega); (try have hk2_4 : wr.heap.size < w2.heap.size := by omega); (try have hk2_5 : wr.heap.size + 1 < w2.heap.size := by omega); (try have hk2_6 : w1.heap.size < w2.heap.size := by omega); (try have hk2_7 : w1.heap.size + 1 < w2.heap.size := by omega)
    go_wp2_with fail; refine (MU.out _).mono ?_; rintro e w3 ⟨rfl, hb3⟩; obtain ⟨hc3, hf3, -, hB3⟩ := bcell hb3; have hz3 := hb3.size; (try simp at hz3); (try have hk3_0 : w.heap.size < w3.heap.size := by omega); (try have hk3_1 : w.heap.size + 1 < w3.heap.size := by omega); (try have hk3_2 : w.heap.size + 1 + 1 < w3.heap.size := by omega); (try have hk3_3 : w.heap.size + 1 + 1 + 1 < w3.heap.size := by omega); (try have hk3_4 : wr.heap.size < w3.heap.size := by omega); (try have hk3_5 : wr.heap.size + 1 < w3.heap.size := by omega); (try have hk3_6 : w1.heap.size < w3.heap.size := by omega); (try have hk3_7 : w1.heap.size + 1 < w3.heap.size := by omega); (try have hk3_8 : w2.heap.size < w3.heap.size := by omega); (try have hk3_9 : w2.heap.size + 1 < w3.heap.size := by omega)
    go_wp2_with fail
    apply body_row2 (w.heap.size + 1 + 1) 25 Try.results57 Try.underlying25 rfl rfl rfl; (case q => simp (disch := (first | omega | (simp; done) | (simp; omega))) [*]; try rfl); (case hi => kernel_rfl)
    exact ⟨rfl, (by repeat' (first | (with_reducible exact Below.refl _ _) | (with_reducible assumption) | (with_reducible refine Below.setCell ?_ ?_ _) | (with_reducible refine Below.alloc ?_ ?_ _) | (with_reducible refine Below.drew ?_) | (with_reducible refine below_drewN ?_ _) | (with_reducible refine Below.trans ?_ (Below.mono (by with_reducible assumption) ?_)) | go_size | (simp at *; omega)))⟩
  · rw [hm] at MU
    have HF := Lib.hid (muN_yes hm)
    rw [HF.out]
    generalize muX d ax ay bx b_ = mx at *
    generalize muY ax ay bx b_ = my at *
    clear hm h1 h2 hs
    go_enter Try.func57, Try.ntmps57
    go_wp2_with fail; refine (C1.out _).mono ?_; rintro e w1 ⟨rfl, hb1⟩; obtain ⟨hc1, hf1, -, hB1⟩ := bcell hb1; have hz1 := hb1.size; (try simp at hz1); (try have hk1_0 : w.heap.size < w1.heap.size := by omega); (try have hk1_1 : w.heap.size + 1 < w1.heap.size := by omega); (try have hk1_2 : w.heap.size + 1 + 1 < w1.heap.size := by omega); (try have hk1_3 : w.heap.size + 1 + 1 + 1 < w1.heap.size := by omega); (try have hk1_4 : wr.heap.size < w1.heap.size := by omega); (try have hk1_5 : wr.heap.size + 1 < w1.heap.size := by omega)
    go_wp2_with fail; refine (C2.out _).mono ?_; rintro e w2 ⟨rfl, hb2⟩; obtain ⟨hc2, hf2, -, hB2⟩ := bcell hb2; have hz2 := hb2.size; (try simp at hz2); (try have hk2_0 : w.heap.size < w2.heap.size := by omega); (try have hk2_1 : w.heap.size + 1 < w2.heap.size := by omega); (try have hk2_2 : w.heap.size + 1 + 1 < w2.heap.size := by omega); (try have hk2_3 : w.heap.size + 1 + 1 + 1 < w2.heap.size := by omega); (try have hk2_4 : wr.heap.size < w2.heap.size := by omega); (try have hk2_5 : wr.heap.size + 1 < w2.heap.size := by omega); (try have hk2_6 : w1.heap.size < w2.heap.size := by omega); (try have hk2_7 : w1.heap.size + 1 < w2.heap.size := by omega)
    go_wp2_with fail; refine (MU.out _).mono ?_; rintro e w3 ⟨rfl, hb3⟩; obtain ⟨hc3, hf3, -, hB3⟩ := bcell hb3; have hz3 := hb3.size; (try simp at hz3); (try have hk3_0 : w.heap.size < w3.heap.size := by omega); (try have hk3_1 : w.heap.size + 1 < w3.heap.size := by omega); (try have hk3_2 : w.heap.size + 1 + 1 < w3.heap.size := by omega); (try have hk3_3 : w.heap.size + 1 + 1 + 1 < w3.heap.size := by omega); (try have hk3_4 : wr.heap.size < w3.heap.size := by omega); (try have hk3_5 : wr.heap.size + 1 < w3.heap.size := by omega); (try have hk3_6 : w1.heap.size < w3.heap.size := by omega); (try have hk3_7 : w1.heap.size + 1 < w3.heap.size := by omega); (try have hk3_8 : w2.heap.size < w3.heap.size := by omega); (try have hk3_9 : w2.heap.size + 1 < w3.heap.size := by omega)
    go_wp2_with fail
    apply body_row2 (w.heap.size + 1 + 1) 25 Try.results57 Try.underlying25 rfl rfl rfl; (case q => simp (disch := (first | omega | (simp; done) | (simp; omega))) [*]; try rfl); (case hi => kernel_rfl)
    exact ⟨rfl, (by repeat' (first | (with_reducible exact Below.refl _ _) | (with_reducible assumption) | (with_reducible refine Below.setCell ?_ ?_ _) | (with_reducible refine Below.alloc ?_ ?_ _) | (with_reducible refine Below.drew ?_) | (with_reducible refine below_drewN ?_ _) | (with_reducible refine Below.trans ?_ (Below.mono (by with_reducible assumption) ?_)) | go_size | (simp at *; omega)))⟩
end Go.Proofs.Ytdbbjmcfpfalhaa
