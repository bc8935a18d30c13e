/- The text form of a state: both packages, and the law. -/
import Derived.Test.YtfnjboaocalidaaDoorTabK
import Derived.Test.YtfnjboaocalidaaDoorStateC
namespace Go.Proofs.YtfnjboaocalidaaDoor
open Go.ChangeShapes Go.WideShapes Go.ChangeAt Go.RowKit
set_option linter.unusedVariables false
set_option maxHeartbeats 8000000
set_option maxRecDepth 20000
/-- The text of a plain state. -/
def stT (A B C D : ByteArray) : ByteArray := (((((((⟨#[40]⟩ ++ A) ++ ⟨#[120, 32, 43, 32]⟩) ++ B) ++ ⟨#[41, 47, 40]⟩) ++ C) ++ ⟨#[120, 32, 43, 32]⟩) ++ D) ++ ⟨#[41]⟩
def itB (n : Int) : ByteArray := ⟨(Lib.itoa n).toArray⟩
def stR (a b c d : Int) : ByteArray := if vS a b c d = true then stT (itB a) (itB b) (itB c) (itB d) else ⟨#[]⟩
theorem stT_ne (A B C D : ByteArray) : stT A B C D ≠ ⟨#[]⟩ := by
  intro h
  have h2 := congrArg ByteArray.size h
  unfold stT at h2
  rw [ByteArray.size_append] at h2
  have e1 : ByteArray.size ⟨#[41]⟩ = 1 := rfl
  have e2 : ByteArray.size ⟨#[]⟩ = 0 := rfl
  rw [e1, e2] at h2
  omega
theorem vS_bnd {a b c d : Int} (h : vS a b c d = true) : (-1000000000 ≤ a ∧ a ≤ 1000000000) ∧ (-1000000000 ≤ b ∧ b ≤ 1000000000) ∧ (-1000000000 ≤ c ∧ c ≤ 1000000000) ∧ (-1000000000 ≤ d ∧ d ≤ 1000000000) := by
  simp only [vS, Bool.and_eq_true] at h
  exact bS_iff.1 h.1
theorem iST_any (a b c d : Int) (w : World) (ht : Tab w) :
    Calls Tryd.prog 7 #[.agg #[.int .i64 a, .int .i64 b, .int .i64 c, .int .i64 d]] w fun e w' => e = .returned (.string (stR a b c d)) ∧ Below w.heap.size w w' := by
  have HT := Lib.hid ht
  have OK := Lib.hid (validState_any a b c d)
  clear ht
  generalize hv : vS a b c d = vv at OK
  cases vv
  · skip
    have HF : Hid (stR a b c d = ⟨#[]⟩) := Lib.hid (by unfold stR; rw [if_neg (by rw [hv]; decide)])
    clear hv
    go_enter Tryd.func7, Tryd.ntmps7
    go_wp2_with fail; refine (OK.out _).mono ?_; rintro e w1 ⟨rfl, hb1⟩; obtain ⟨hc1, hf1, -, hB1⟩ := bcell hb1; have hz1 := hb1.size; (try simp at hz1); (try have hk1_0 : w.heap.size < w1.heap.size := by omega); (try have hk1_1 : w.heap.size + 1 < w1.heap.size := by omega); (try have hk1_2 : w.heap.size + 1 + 1 < w1.heap.size := by omega); (try have hk1_3 : w.heap.size + 1 + 1 + 1 < w1.heap.size := by omega); (try have hk1_4 : wr.heap.size < w1.heap.size := by omega); (try have hk1_5 : wr.heap.size + 1 < w1.heap.size := by omega)
    go_wp2_with fail
    go_ret
    exact ⟨by first | (rw [HF.out]; done) | (rw [HF.out]; rfl) | (simp [HF.out]; done), (by repeat' (first | (with_reducible exact Below.refl _ _) | (with_reducible assumption) | (with_reducible refine Below.setCell ?_ ?_ _) | (with_reducible refine Below.alloc ?_ ?_ _) | (with_reducible refine Below.drew ?_) | (with_reducible refine below_drewN ?_ _) | (with_reducible refine Below.trans ?_ (Below.mono (by with_reducible assumption) ?_)) | go_size | (simp at *; omega)))⟩
  · skip
    obtain ⟨h1, h2, h3, h4⟩ := vS_bnd hv
    have HF : Hid (stR a b c d = stT (itB a) (itB b) (itB c) (itB d)) := Lib.hid (by unfold stR; rw [if_pos hv])
    have D1 := Lib.hid (decimal_any a (by omega))
    have D2 := Lib.hid (decimal_any b (by omega))
    have D3 := Lib.hid (decimal_any c (by omega))
    have D4 := Lib.hid (decimal_any d (by omega))
    have l1 := itoa_len (n := a) (by omega)
    have l2 := itoa_len (n := b) (by omega)
    have l3 := itoa_len (n := c) (by omega)
    have l4 := itoa_len (n := d) (by omega)
    unfold itB stT at HF
    generalize (Lib.itoa a).toArray = A1 at *
    generalize (Lib.itoa b).toArray = A2 at *
    generalize (Lib.itoa c).toArray = A3 at *
    generalize (Lib.itoa d).toArray = A4 at *
    obtain ⟨x1, y1, z1, k1⟩ := strAddN (x := ⟨#[40]⟩) (y := ⟨A1⟩) (k := 1) (m := 20) (Nat.le_refl _) l1 (by omega)
    obtain ⟨x2, y2, z2, k2⟩ := strAddN (x := x1) (y := ⟨#[120, 32, 43, 32]⟩) (m := 4) z1 (Nat.le_refl _) (by omega)
    obtain ⟨x3, y3, z3, k3⟩ := strAddN (x := x2) (y := ⟨A2⟩) (m := 20) z2 l2 (by omega)
    obtain ⟨x4, y4, z4, k4⟩ := strAddN (x := x3) (y := ⟨#[41, 47, 40]⟩) (m := 3) z3 (Nat.le_refl _) (by omega)
    obtain ⟨x5, y5, z5, k5⟩ := strAddN (x := x4) (y := ⟨A3⟩) (m := 20) z4 l3 (by omega)
    obtain ⟨x6, y6, z6, k6⟩ := strAddN (x := x5) (y := ⟨#[120, 32, 43, 32]⟩) (m := 4) z5 (Nat.le_refl _) (by omega)
    obtain ⟨x7, y7, z7, k7⟩ := strAddN (x := x6) (y := ⟨A4⟩) (m := 20) z6 l4 (by omega)
    obtain ⟨x8, y8, z8, k8⟩ := strAddN (x := x7) (y := ⟨#[41]⟩) (m := 1) z7 (Nat.le_refl _) (by omega)
    rw [y1, y2, y3, y4, y5, y6, y7, y8] at HF
    have g1 : ¬ (9223372036854775807 < 1 + A1.size) := by omega
    have g2 : ¬ (9223372036854775807 < x1.size + 4) := by omega
    have g3 : ¬ (9223372036854775807 < x2.size + A2.size) := by omega
    have g4 : ¬ (9223372036854775807 < x3.size + 3) := by omega
    have g5 : ¬ (9223372036854775807 < x4.size + A3.size) := by omega
    have g6 : ¬ (9223372036854775807 < x5.size + 4) := by omega
    have g7 : ¬ (9223372036854775807 < x6.size + A4.size) := by omega
    have g8 : ¬ (9223372036854775807 < x7.size + 1) := by omega
    have g9 : ¬ (9223372036854775807 ≤ x7.size) := by omega
    clear z1 z2 z3 z4 z5 z6 z7 z8 l1 l2 l3 l4 k1 k2 k3 k4 k5 k6 k7 k8
    generalize stR a b c d = R at *
    clear hv h1 h2 h3 h4
    go_enter Tryd.func7, Tryd.ntmps7
    go_wp2_with fail; refine (OK.out _).mono ?_; rintro e w1 ⟨rfl, hb1⟩; obtain ⟨hc1, hf1, -, hB1⟩ := bcell hb1; have hz1 := hb1.size; (try simp at hz1); (try have hk1_0 : w.heap.size < w1.heap.size := by omega); (try have hk1_1 : w.heap.size + 1 < w1.heap.size := by omega); (try have hk1_2 : w.heap.size + 1 + 1 < w1.heap.size := by omega); (try have hk1_3 : w.heap.size + 1 + 1 + 1 < w1.heap.size := by omega); (try have hk1_4 : wr.heap.size < w1.heap.size := by omega); (try have hk1_5 : wr.heap.size + 1 < w1.heap.size := by omega)
    go_wp2_with fail
    have gB : heapAt w1 w.heap.size = some (.cells #[.int .i64 a, .int .i64 b, .int .i64 c, .int .i64 d] 25 (0, 0)) := (by simp (disch := (first | omega | (simp; done) | (simp; omega))) [*])
    have hbw : Below w.heap.size w w1 := (by repeat' (first | (with_reducible exact Below.refl _ _) | (with_reducible assumption) | (with_reducible refine Below.setCell ?_ ?_ _) | (with_reducible refine Below.alloc ?_ ?_ _) | (with_reducible refine Below.drew ?_) | (with_reducible refine below_drewN ?_ _) | (with_reducible refine Below.trans ?_ (Below.mono (by with_reducible assumption) ?_)) | go_size | (simp at *; omega)))
    have HT1 := Lib.hid (HT.out.below hbw)
    clear hc1 hf1 hB1 hb1
    obtain ⟨zB, p1, p2, p3, p4, f1, f2, f3, f4⟩ := blk4 gB
    go_region_held3 (fun w' => Kept w1 w') (repeat (first | (with_reducible assumption) | (with_reducible exact kept_refl _) | (with_reducible exact kept_other (by with_reducible assumption) (by first | omega | (simp; done) | (simp; omega))) | (with_reducible refine kept_alloc ?_) | (with_reducible refine kept_drew ?_) | (with_reducible refine kept_set ?_ (by first | omega | (simp; done) | (simp; omega))) | (with_reducible refine kept_call ?_ hb1))) (first | (go_at_call 23; with_reducible refine (D1.out _ (tab_kept ?hk HT1.out)).mono ?_; (case hk => first | (with_reducible assumption) | exact kept_refl _ | assumption); rintro e w1 ⟨rfl, hb1⟩; obtain ⟨hc1, hf1, hl1, hB1⟩ := bcell hb1; (try simp only [World.size_drew, cell_drew, frozen_drew, heapAt_drew] at hc1 hf1 hl1 hB1); have hz1 := hb1.size; (try simp at hz1); (try have hkA := hl1 _ hkA); (try have hkA : _ < w1.heap.size := hz1); (try have hkW : w1.heap.size < w1.heap.size := by omega); (try have hk0 : w.heap.size < w1.heap.size := by omega); (try have hk1 : w.heap.size + 1 < w1.heap.size := by omega); (try have hk2 : w.heap.size + 1 + 1 < w1.heap.size := by omega)) | (go_at_call 23; with_reducible refine (D2.out _ (tab_kept ?hk HT1.out)).mono ?_; (case hk => first | (with_reducible assumption) | exact kept_refl _ | assumption); rintro e w1 ⟨rfl, hb1⟩; obtain ⟨hc1, hf1, hl1, hB1⟩ := bcell hb1; (try simp only [World.size_drew, cell_drew, frozen_drew, heapAt_drew] at hc1 hf1 hl1 hB1); have hz1 := hb1.size; (try simp at hz1); (try have hkA := hl1 _ hkA); (try have hkA : _ < w1.heap.size := hz1); (try have hkW : w1.heap.size < w1.heap.size := by omega); (try have hk0 : w.heap.size < w1.heap.size := by omega); (try have hk1 : w.heap.size + 1 < w1.heap.size := by omega); (try have hk2 : w.heap.size + 1 + 1 < w1.heap.size := by omega)) | (go_at_call 23; with_reducible refine (D3.out _ (tab_kept ?hk HT1.out)).mono ?_; (case hk => first | (with_reducible assumption) | exact kept_refl _ | assumption); rintro e w1 ⟨rfl, hb1⟩; obtain ⟨hc1, hf1, hl1, hB1⟩ := bcell hb1; (try simp only [World.size_drew, cell_drew, frozen_drew, heapAt_drew] at hc1 hf1 hl1 hB1); have hz1 := hb1.size; (try simp at hz1); (try have hkA := hl1 _ hkA); (try have hkA : _ < w1.heap.size := hz1); (try have hkW : w1.heap.size < w1.heap.size := by omega); (try have hk0 : w.heap.size < w1.heap.size := by omega); (try have hk1 : w.heap.size + 1 < w1.heap.size := by omega); (try have hk2 : w.heap.size + 1 + 1 < w1.heap.size := by omega)) | (go_at_call 23; with_reducible refine (D4.out _ (tab_kept ?hk HT1.out)).mono ?_; (case hk => first | (with_reducible assumption) | exact kept_refl _ | assumption); rintro e w1 ⟨rfl, hb1⟩; obtain ⟨hc1, hf1, hl1, hB1⟩ := bcell hb1; (try simp only [World.size_drew, cell_drew, frozen_drew, heapAt_drew] at hc1 hf1 hl1 hB1); have hz1 := hb1.size; (try simp at hz1); (try have hkA := hl1 _ hkA); (try have hkA : _ < w1.heap.size := hz1); (try have hkW : w1.heap.size < w1.heap.size := by omega); (try have hk0 : w.heap.size < w1.heap.size := by omega); (try have hk1 : w.heap.size + 1 < w1.heap.size := by omega); (try have hk2 : w.heap.size + 1 + 1 < w1.heap.size := by omega)))
    all_goals
      go_wp2_with fail
      go_ret
      exact ⟨by first | (rw [HF.out]; done) | (rw [HF.out]; rfl) | (simp [HF.out]; done), (by repeat' (first | (with_reducible exact Below.refl _ _) | (with_reducible assumption) | (with_reducible refine Below.setCell ?_ ?_ _) | (with_reducible refine Below.alloc ?_ ?_ _) | (with_reducible refine Below.drew ?_) | (with_reducible refine below_drewN ?_ _) | (with_reducible refine Below.trans ?_ (Below.mono (by with_reducible assumption) ?_)) | go_size | (simp at *; omega)))⟩
theorem l13Text_any (a b c d : Int) (w : World) (h1 : -1000000000 ≤ a ∧ a ≤ 1000000000) (h2 : -1000000000 ≤ b ∧ b ≤ 1000000000) (h3 : -1000000000 ≤ c ∧ c ≤ 1000000000) (h4 : -1000000000 ≤ d ∧ d ≤ 1000000000) :
    Calls Tryd.prog 21 #[.agg #[.int .i64 a, .int .i64 b, .int .i64 c, .int .i64 d]] w fun e w' => e = .returned (.string (stT (itB a) (itB b) (itB c) (itB d))) ∧ Below w.heap.size w w' := by
  have D1 := Lib.hid (l01Dec_any a (by omega))
  have D2 := Lib.hid (l01Dec_any b (by omega))
  have D3 := Lib.hid (l01Dec_any c (by omega))
  have D4 := Lib.hid (l01Dec_any d (by omega))
  have l1 := itoa_len (n := a) (by omega)
  have l2 := itoa_len (n := b) (by omega)
  have l3 := itoa_len (n := c) (by omega)
  have l4 := itoa_len (n := d) (by omega)
  obtain ⟨R, hR⟩ : ∃ R, stT (itB a) (itB b) (itB c) (itB d) = R := ⟨_, rfl⟩
  rw [hR]
  have HF := Lib.hid hR
  clear hR
  unfold itB stT at HF
  generalize (Lib.itoa a).toArray = A1 at *
  generalize (Lib.itoa b).toArray = A2 at *
  generalize (Lib.itoa c).toArray = A3 at *
  generalize (Lib.itoa d).toArray = A4 at *
  obtain ⟨x1, y1, z1, k1⟩ := strAddN (x := ⟨#[40]⟩) (y := ⟨A1⟩) (k := 1) (m := 20) (Nat.le_refl _) l1 (by omega)
  obtain ⟨x2, y2, z2, k2⟩ := strAddN (x := x1) (y := ⟨#[120, 32, 43, 32]⟩) (m := 4) z1 (Nat.le_refl _) (by omega)
  obtain ⟨x3, y3, z3, k3⟩ := strAddN (x := x2) (y := ⟨A2⟩) (m := 20) z2 l2 (by omega)
  obtain ⟨x4, y4, z4, k4⟩ := strAddN (x := x3) (y := ⟨#[41, 47, 40]⟩) (m := 3) z3 (Nat.le_refl _) (by omega)
  obtain ⟨x5, y5, z5, k5⟩ := strAddN (x := x4) (y := ⟨A3⟩) (m := 20) z4 l3 (by omega)
  obtain ⟨x6, y6, z6, k6⟩ := strAddN (x := x5) (y := ⟨#[120, 32, 43, 32]⟩) (m := 4) z5 (Nat.le_refl _) (by omega)
  obtain ⟨x7, y7, z7, k7⟩ := strAddN (x := x6) (y := ⟨A4⟩) (m := 20) z6 l4 (by omega)
  obtain ⟨x8, y8, z8, k8⟩ := strAddN (x := x7) (y := ⟨#[41]⟩) (m := 1) z7 (Nat.le_refl _) (by omega)
  rw [y1, y2, y3, y4, y5, y6, y7, y8] at HF
  have g1 : ¬ (9223372036854775807 < 1 + A1.size) := by omega
  have g2 : ¬ (9223372036854775807 < x1.size + 4) := by omega
  have g3 : ¬ (9223372036854775807 < x2.size + A2.size) := by omega
  have g4 : ¬ (9223372036854775807 < x3.size + 3) := by omega
  have g5 : ¬ (9223372036854775807 < x4.size + A3.size) := by omega
  have g6 : ¬ (9223372036854775807 < x5.size + 4) := by omega
  have g7 : ¬ (9223372036854775807 < x6.size + A4.size) := by omega
  have g8 : ¬ (9223372036854775807 < x7.size + 1) := by omega
  have g9 : ¬ (9223372036854775807 ≤ x7.size) := by omega
  clear z1 z2 z3 z4 z5 z6 z7 z8 l1 l2 l3 l4 k1 k2 k3 k4 k5 k6 k7 k8
  clear h1 h2 h3 h4
  go_enter Tryd.func21, Tryd.ntmps21
  go_wp2_with fail
  obtain ⟨V, hV⟩ : ∃ V, V = w.alloc (.cells #[.int .i64 a, .int .i64 b, .int .i64 c, .int .i64 d] 25) := ⟨_, rfl⟩
  have gB : heapAt V w.heap.size = some (.cells #[.int .i64 a, .int .i64 b, .int .i64 c, .int .i64 d] 25 (0, 0)) := by rw [hV]; exact heapAt_new w _
  have hbw : Below w.heap.size w V := by rw [hV]; exact (by repeat' (first | (with_reducible exact Below.refl _ _) | (with_reducible assumption) | (with_reducible refine Below.setCell ?_ ?_ _) | (with_reducible refine Below.alloc ?_ ?_ _) | (with_reducible refine Below.drew ?_) | (with_reducible refine below_drewN ?_ _) | (with_reducible refine Below.trans ?_ (Below.mono (by with_reducible assumption) ?_)) | go_size | (simp at *; omega)))
  rw [← hV]
  clear hV
  obtain ⟨zB, p1, p2, p3, p4, f1, f2, f3, f4⟩ := blk4 gB
  go_region_held3 (fun w' => Kept V w') (repeat (first | (with_reducible assumption) | (with_reducible exact kept_refl _) | (with_reducible exact kept_other (by with_reducible assumption) (by first | omega | (simp; done) | (simp; omega))) | (with_reducible refine kept_alloc ?_) | (with_reducible refine kept_drew ?_) | (with_reducible refine kept_set ?_ (by first | omega | (simp; done) | (simp; omega))) | (with_reducible refine kept_call ?_ hb1))) (first | (go_at_call 37; with_reducible refine (D1.out _).mono ?_; rintro e w1 ⟨rfl, hb1⟩; obtain ⟨hc1, hf1, hl1, hB1⟩ := bcell hb1; (try simp only [World.size_drew, cell_drew, frozen_drew, heapAt_drew] at hc1 hf1 hl1 hB1); have hz1 := hb1.size; (try simp at hz1); (try have hkA := hl1 _ hkA); (try have hkA : _ < w1.heap.size := hz1); (try have hkW : V.heap.size < w1.heap.size := by omega); (try have hk0 : w.heap.size < w1.heap.size := by omega); (try have hk1 : w.heap.size + 1 < w1.heap.size := by omega); (try have hk2 : w.heap.size + 1 + 1 < w1.heap.size := by omega)) | (go_at_call 37; with_reducible refine (D2.out _).mono ?_; rintro e w1 ⟨rfl, hb1⟩; obtain ⟨hc1, hf1, hl1, hB1⟩ := bcell hb1; (try simp only [World.size_drew, cell_drew, frozen_drew, heapAt_drew] at hc1 hf1 hl1 hB1); have hz1 := hb1.size; (try simp at hz1); (try have hkA := hl1 _ hkA); (try have hkA : _ < w1.heap.size := hz1); (try have hkW : V.heap.size < w1.heap.size := by omega); (try have hk0 : w.heap.size < w1.heap.size := by omega); (try have hk1 : w.heap.size + 1 < w1.heap.size := by omega); (try have hk2 : w.heap.size + 1 + 1 < w1.heap.size := by omega)) | (go_at_call 37; with_reducible refine (D3.out _).mono ?_; rintro e w1 ⟨rfl, hb1⟩; obtain ⟨hc1, hf1, hl1, hB1⟩ := bcell hb1; (try simp only [World.size_drew, cell_drew, frozen_drew, heapAt_drew] at hc1 hf1 hl1 hB1); have hz1 := hb1.size; (try simp at hz1); (try have hkA := hl1 _ hkA); (try have hkA : _ < w1.heap.size := hz1); (try have hkW : V.heap.size < w1.heap.size := by omega); (try have hk0 : w.heap.size < w1.heap.size := by omega); (try have hk1 : w.heap.size + 1 < w1.heap.size := by omega); (try have hk2 : w.heap.size + 1 + 1 < w1.heap.size := by omega)) | (go_at_call 37; with_reducible refine (D4.out _).mono ?_; rintro e w1 ⟨rfl, hb1⟩; obtain ⟨hc1, hf1, hl1, hB1⟩ := bcell hb1; (try simp only [World.size_drew, cell_drew, frozen_drew, heapAt_drew] at hc1 hf1 hl1 hB1); have hz1 := hb1.size; (try simp at hz1); (try have hkA := hl1 _ hkA); (try have hkA : _ < w1.heap.size := hz1); (try have hkW : V.heap.size < w1.heap.size := by omega); (try have hk0 : w.heap.size < w1.heap.size := by omega); (try have hk1 : w.heap.size + 1 < w1.heap.size := by omega); (try have hk2 : w.heap.size + 1 + 1 < w1.heap.size := by omega)))
  all_goals
    go_wp2_with fail
    go_ret
    exact ⟨by first | (rw [← HF.out]; done) | (rw [← HF.out]; rfl), (by repeat' (first | (with_reducible exact Below.refl _ _) | (with_reducible assumption) | (with_reducible refine Below.setCell ?_ ?_ _) | (with_reducible refine Below.alloc ?_ ?_ _) | (with_reducible refine Below.drew ?_) | (with_reducible refine below_drewN ?_ _) | (with_reducible refine Below.trans ?_ (Below.mono (by with_reducible assumption) ?_)) | go_size | (simp at *; omega)))⟩
theorem sST_any (a b c d : Int) (w : World) :
    Calls Tryd.prog 5 #[.agg #[.int .i64 a, .int .i64 b, .int .i64 c, .int .i64 d]] w fun e w' => e = .returned (.string (stR a b c d)) ∧ Below w.heap.size w w' := by
  have OK := Lib.hid (l13Ok_any a b c d)
  generalize hv : vS a b c d = vv at OK
  cases vv
  · skip
    have HF : Hid (stR a b c d = ⟨#[]⟩) := Lib.hid (by unfold stR; rw [if_neg (by rw [hv]; decide)])
    clear hv
    go_enter Tryd.func5, Tryd.ntmps5
    go_wp2_with fail; refine (OK.out _).mono ?_; rintro e w1 ⟨rfl, hb1⟩; obtain ⟨hc1, hf1, -, hB1⟩ := bcell hb1; have hz1 := hb1.size; (try simp at hz1); (try have hk1_0 : w.heap.size < w1.heap.size := by omega); (try have hk1_1 : w.heap.size + 1 < w1.heap.size := by omega); (try have hk1_2 : w.heap.size + 1 + 1 < w1.heap.size := by omega); (try have hk1_3 : w.heap.size + 1 + 1 + 1 < w1.heap.size := by omega); (try have hk1_4 : wr.heap.size < w1.heap.size := by omega); (try have hk1_5 : wr.heap.size + 1 < w1.heap.size := by omega)
    go_wp2_with fail
    go_ret
    exact ⟨by first | (rw [HF.out]; done) | (rw [HF.out]; rfl) | (simp [HF.out]; done), (by repeat' (first | (with_reducible exact Below.refl _ _) | (with_reducible assumption) | (with_reducible refine Below.setCell ?_ ?_ _) | (with_reducible refine Below.alloc ?_ ?_ _) | (with_reducible refine Below.drew ?_) | (with_reducible refine below_drewN ?_ _) | (with_reducible refine Below.trans ?_ (Below.mono (by with_reducible assumption) ?_)) | go_size | (simp at *; omega)))⟩
  · skip
    obtain ⟨h1, h2, h3, h4⟩ := vS_bnd hv
    have HF : Hid (stR a b c d = stT (itB a) (itB b) (itB c) (itB d)) := Lib.hid (by unfold stR; rw [if_pos hv])
    have TX := Lib.hid (by have h := l13Text_any a b c d · h1 h2 h3 h4; rw [← HF.out] at h; exact h)
    generalize stR a b c d = R at *
    clear hv h1 h2 h3 h4 HF
    go_enter Tryd.func5, Tryd.ntmps5
    go_wp2_with fail; refine (OK.out _).mono ?_; rintro e w1 ⟨rfl, hb1⟩; obtain ⟨hc1, hf1, -, hB1⟩ := bcell hb1; have hz1 := hb1.size; (try simp at hz1); (try have hk1_0 : w.heap.size < w1.heap.size := by omega); (try have hk1_1 : w.heap.size + 1 < w1.heap.size := by omega); (try have hk1_2 : w.heap.size + 1 + 1 < w1.heap.size := by omega); (try have hk1_3 : w.heap.size + 1 + 1 + 1 < w1.heap.size := by omega); (try have hk1_4 : wr.heap.size < w1.heap.size := by omega); (try have hk1_5 : wr.heap.size + 1 < w1.heap.size := by omega)
    go_wp2_with fail; refine (TX.out _).mono ?_; rintro e w2 ⟨rfl, hb2⟩; obtain ⟨hc2, hf2, -, hB2⟩ := bcell hb2; have hz2 := hb2.size; (try simp at hz2); (try have hk2_0 : w.heap.size < w2.heap.size := by omega); (try have hk2_1 : w.heap.size + 1 < w2.heap.size := by omega); (try have hk2_2 : w.heap.size + 1 + 1 < w2.heap.size := by omega); (try have hk2_3 : w.heap.size + 1 + 1 + 1 < w2.heap.size := by omega); (try have hk2_4 : wr.heap.size < w2.heap.size := by omega); (try have hk2_5 : wr.heap.size + 1 < w2.heap.size := by omega); (try have hk2_6 : w1.heap.size < w2.heap.size := by omega); (try have hk2_7 : w1.heap.size + 1 < w2.heap.size := by omega)
    go_wp2_with fail
    go_ret
    exact ⟨rfl, (by repeat' (first | (with_reducible exact Below.refl _ _) | (with_reducible assumption) | (with_reducible refine Below.setCell ?_ ?_ _) | (with_reducible refine Below.alloc ?_ ?_ _) | (with_reducible refine Below.drew ?_) | (with_reducible refine below_drewN ?_ _) | (with_reducible refine Below.trans ?_ (Below.mono (by with_reducible assumption) ?_)) | go_size | (simp at *; omega)))⟩
theorem walk_FnExactStateText (a b c d : Int) (wa : (Lit.int .i64 a).wf = true) (wb : (Lit.int .i64 b).wf = true) (wc : (Lit.int .i64 c).wf = true) (wd : (Lit.int .i64 d).wf = true) (w : World) (ht : Tab w) :
    Calls Tryd.prog 3 #[.agg #[.int .i64 a, .int .i64 b, .int .i64 c, .int .i64 d]] w fun e w' => e = .returned (.bool true) ∧ Below w.heap.size w w' := by
  have HT := Lib.hid ht
  have E1 := Lib.hid (sST_any a b c d)
  have E2 := Lib.hid (iST_any a b c d)
  generalize stR a b c d = R at *
  clear ht
  go_enter Tryd.func3, Tryd.ntmps3
  go_wp2_with fail; refine (toState_any _ _ _ _ _).mono ?_; rintro e w1 ⟨rfl, hb1⟩; obtain ⟨hc1, hf1, -, hB1⟩ := bcell hb1; have hz1 := hb1.size; (try simp at hz1); (try have hk1_0 : w.heap.size < w1.heap.size := by omega); (try have hk1_1 : w.heap.size + 1 < w1.heap.size := by omega); (try have hk1_2 : w.heap.size + 1 + 1 < w1.heap.size := by omega); (try have hk1_3 : w.heap.size + 1 + 1 + 1 < w1.heap.size := by omega); (try have hk1_4 : wr.heap.size < w1.heap.size := by omega); (try have hk1_5 : wr.heap.size + 1 < w1.heap.size := by omega)
  go_wp2_with fail; refine (E1.out _).mono ?_; rintro e w2 ⟨rfl, hb2⟩; obtain ⟨hc2, hf2, -, hB2⟩ := bcell hb2; have hz2 := hb2.size; (try simp at hz2); (try have hk2_0 : w.heap.size < w2.heap.size := by omega); (try have hk2_1 : w.heap.size + 1 < w2.heap.size := by omega); (try have hk2_2 : w.heap.size + 1 + 1 < w2.heap.size := by omega); (try have hk2_3 : w.heap.size + 1 + 1 + 1 < w2.heap.size := by omega); (try have hk2_4 : wr.heap.size < w2.heap.size := by omega); (try have hk2_5 : wr.heap.size + 1 < w2.heap.size := by omega); (try have hk2_6 : w1.heap.size < w2.heap.size := by omega); (try have hk2_7 : w1.heap.size + 1 < w2.heap.size := by omega)
  go_wp2_with fail; refine (toState_any _ _ _ _ _).mono ?_; rintro e w3 ⟨rfl, hb3⟩; obtain ⟨hc3, hf3, -, hB3⟩ := bcell hb3; have hz3 := hb3.size; (try simp at hz3); (try have hk3_0 : w.heap.size < w3.heap.size := by omega); (try have hk3_1 : w.heap.size + 1 < w3.heap.size := by omega); (try have hk3_2 : w.heap.size + 1 + 1 < w3.heap.size := by omega); (try have hk3_3 : w.heap.size + 1 + 1 + 1 < w3.heap.size := by omega); (try have hk3_4 : wr.heap.size < w3.heap.size := by omega); (try have hk3_5 : wr.heap.size + 1 < w3.heap.size := by omega); (try have hk3_6 : w1.heap.size < w3.heap.size := by omega); (try have hk3_7 : w1.heap.size + 1 < w3.heap.size := by omega); (try have hk3_8 : w2.heap.size < w3.heap.size := by omega); (try have hk3_9 : w2.heap.size + 1 < w3.heap.size := by omega)
  go_wp2_with fail
  have hb0 : Below w.heap.size w w3 := (by repeat' (first | (with_reducible exact Below.refl _ _) | (with_reducible assumption) | (with_reducible refine Below.setCell ?_ ?_ _) | (with_reducible refine Below.alloc ?_ ?_ _) | (with_reducible refine Below.drew ?_) | (with_reducible refine below_drewN ?_ _) | (with_reducible refine Below.trans ?_ (Below.mono (by with_reducible assumption) ?_)) | go_size | (simp at *; omega)))
  have HT3 := Lib.hid (HT.out.below hb0)
  go_wp2_with fail; refine (E2.out _ HT3.out).mono ?_; rintro e w4 ⟨rfl, hb4⟩; obtain ⟨hc4, hf4, -, hB4⟩ := bcell hb4; have hz4 := hb4.size; (try simp at hz4); (try have hk4_0 : w.heap.size < w4.heap.size := by omega); (try have hk4_1 : w.heap.size + 1 < w4.heap.size := by omega); (try have hk4_2 : w.heap.size + 1 + 1 < w4.heap.size := by omega); (try have hk4_3 : w.heap.size + 1 + 1 + 1 < w4.heap.size := by omega); (try have hk4_4 : wr.heap.size < w4.heap.size := by omega); (try have hk4_5 : wr.heap.size + 1 < w4.heap.size := by omega); (try have hk4_6 : w1.heap.size < w4.heap.size := by omega); (try have hk4_7 : w1.heap.size + 1 < w4.heap.size := by omega); (try have hk4_8 : w2.heap.size < w4.heap.size := by omega); (try have hk4_9 : w2.heap.size + 1 < w4.heap.size := by omega); (try have hk4_10 : w3.heap.size < w4.heap.size := by omega); (try have hk4_11 : w3.heap.size + 1 < w4.heap.size := by omega)
  go_wp2_with fail
  go_ret
  exact ⟨rfl, (by repeat' (first | (with_reducible exact Below.refl _ _) | (with_reducible assumption) | (with_reducible refine Below.setCell ?_ ?_ _) | (with_reducible refine Below.alloc ?_ ?_ _) | (with_reducible refine Below.drew ?_) | (with_reducible refine below_drewN ?_ _) | (with_reducible refine Below.trans ?_ (Below.mono (by with_reducible assumption) ?_)) | go_size | (simp at *; omega)))⟩
end Go.Proofs.YtfnjboaocalidaaDoor
