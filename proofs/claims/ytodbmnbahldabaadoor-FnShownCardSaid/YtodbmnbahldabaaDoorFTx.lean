/- The text form of a form: both packages, and the law. -/
import Derived.Test.YtodbmnbahldabaaDoorDcs
import Derived.Test.YtodbmnbahldabaaDoorFormB
namespace Go.Proofs.YtodbmnbahldabaaDoor
open Go.ChangeShapes Go.WideShapes Go.ChangeAt Go.RowKit
set_option linter.unusedVariables false
set_option maxHeartbeats 8000000
set_option maxRecDepth 20000
/-- The text of a plain form. -/
def ftT (A B C : ByteArray) : ByteArray := (((((⟨#[40]⟩ ++ A) ++ ⟨#[44, 32]⟩) ++ B) ++ ⟨#[44, 32]⟩) ++ C) ++ ⟨#[41]⟩
def ftR (a b c : Int) : ByteArray := if vF a b c = true then ftT (itB a) (itB b) (itB c) else ⟨#[]⟩
theorem ba_ext {x y : ByteArray} (h : x.data.toList = y.data.toList) : x = y := by
  cases x; cases y
  simp at h
  rw [h]
theorem ft_join (a b c : Int) : (⟨#[40]⟩ ++ dcB [a, b, c]) ++ ⟨#[41]⟩ = ftT (itB a) (itB b) (itB c) := by
  apply ba_ext
  simp [ftT, dcB, itB, Lib.join_cons, Lib.joinTail]
theorem ft_size {a b c : Int} (ha : -10000 ≤ a ∧ a ≤ 10000) (hb : -10000 ≤ b ∧ b ≤ 10000) (hc : -10000 ≤ c ∧ c ≤ 10000) : (ftT (itB a) (itB b) (itB c)).size ≤ 100 := by
  have h1 := itB_size (n := a) (by omega)
  have h2 := itB_size (n := b) (by omega)
  have h3 := itB_size (n := c) (by omega)
  unfold ftT
  simp only [ByteArray.size_append]
  have e1 : ByteArray.size ⟨#[40]⟩ = 1 := rfl
  have e2 : ByteArray.size ⟨#[44, 32]⟩ = 2 := rfl
  have e3 : ByteArray.size ⟨#[41]⟩ = 1 := rfl
  omega
theorem ft_ne (A B C : ByteArray) : ftT A B C ≠ ⟨#[]⟩ := by
  intro h
  have h2 := congrArg ByteArray.size h
  unfold ftT at h2
  rw [ByteArray.size_append] at h2
  have e1 : ByteArray.size ⟨#[41]⟩ = 1 := rfl
  have e2 : ByteArray.size ⟨#[]⟩ = 0 := rfl
  rw [e1, e2] at h2
  omega
theorem iFT_any (a b c : Int) (w : World) (ht : Tab w) :
    Calls Tryd.prog 24 #[.agg #[.int .i64 a, .int .i64 b, .int .i64 c]] w fun e w' => e = .returned (.string (ftR a b c)) ∧ Below w.heap.size w w' := by
  have HT := Lib.hid ht
  have OK := Lib.hid (validForm_any a b c)
  clear ht
  generalize hv : vF a b c = vv at OK
  cases vv
  · skip
    have HF : Hid (ftR a b c = ⟨#[]⟩) := Lib.hid (by unfold ftR; rw [if_neg (by rw [hv]; decide)])
    clear hv
    go_enter Tryd.func24, Tryd.ntmps24
    go_wp2_with fail; refine (OK.out _).mono ?_; rintro e w1 ⟨rfl, hb1⟩; obtain ⟨hc1, hf1, -, hB1⟩ := bcell hb1; have hz1 := hb1.size; (try simp at hz1); (try have hk1_0 : w.heap.size < w1.heap.size := by omega); (try have hk1_1 : w.heap.size + 1 < w1.heap.size := by omega); (try have hk1_2 : w.heap.size + 1 + 1 < w1.heap.size := by omega); (try have hk1_3 : w.heap.size + 1 + 1 + 1 < w1.heap.size := by omega); (try have hk1_4 : wr.heap.size < w1.heap.size := by omega); (try have hk1_5 : wr.heap.size + 1 < w1.heap.size := by omega)
    go_wp2_with fail
    go_ret
    exact ⟨by first | (rw [HF.out]; done) | (rw [HF.out]; rfl) | (simp [HF.out]; done), (by repeat' (first | (with_reducible exact Below.refl _ _) | (with_reducible assumption) | (with_reducible refine Below.setCell ?_ ?_ _) | (with_reducible refine Below.alloc ?_ ?_ _) | (with_reducible refine Below.drew ?_) | (with_reducible refine below_drewN ?_ _) | (with_reducible refine Below.trans ?_ (Below.mono (by with_reducible assumption) ?_)) | go_size | (simp at *; omega)))⟩
  · skip
    obtain ⟨h1, h2, h3⟩ := vF_in hv
    have HF : Hid (ftR a b c = (⟨#[40]⟩ ++ dcB [a, b, c]) ++ ⟨#[41]⟩) := Lib.hid (by unfold ftR; rw [if_pos hv, ft_join])
    have hin : ∀ n ∈ [a, b, c], -9223372036854775808 ≤ n ∧ n ≤ 9223372036854775807 := by
      intro n hn
      simp at hn
      rcases hn with rfl | rfl | rfl <;> omega
    have DX := Lib.hid (decimals_any [a, b, c] (by simp) (by simp) hin)
    have l1 := dcB_size hin
    generalize dcB [a, b, c] = D at *
    obtain ⟨x1, y1, z1, k1⟩ := strAddN (x := ⟨#[40]⟩) (y := D) (k := 1) (m := 66) (Nat.le_refl _) (by simpa using l1) (by omega)
    obtain ⟨x2, y2, z2, k2⟩ := strAddN (x := x1) (y := ⟨#[41]⟩) (m := 1) z1 (Nat.le_refl _) (by omega)
    rw [y1, y2] at HF
    have l1' : D.size ≤ 66 := by simpa using l1
    have g1 : ¬ (9223372036854775807 < 1 + D.size) := by omega
    have g2 : ¬ (9223372036854775807 < x1.size + 1) := by omega
    have g3 : ¬ (9223372036854775807 ≤ x1.size) := by omega
    clear l1 l1' z1 z2
    generalize ftR a b c = R at *
    clear hv h1 h2 h3 hin
    go_enter Tryd.func24, Tryd.ntmps24
    go_wp2_with fail; refine (OK.out _).mono ?_; rintro e w1 ⟨rfl, hb1⟩; obtain ⟨hc1, hf1, -, hB1⟩ := bcell hb1; have hz1 := hb1.size; (try simp at hz1); (try have hk1_0 : w.heap.size < w1.heap.size := by omega); (try have hk1_1 : w.heap.size + 1 < w1.heap.size := by omega); (try have hk1_2 : w.heap.size + 1 + 1 < w1.heap.size := by omega); (try have hk1_3 : w.heap.size + 1 + 1 + 1 < w1.heap.size := by omega); (try have hk1_4 : wr.heap.size < w1.heap.size := by omega); (try have hk1_5 : wr.heap.size + 1 < w1.heap.size := by omega)
    go_wp2_with fail
    have gB : heapAt w1 w.heap.size = some (.cells #[.int .i64 a, .int .i64 b, .int .i64 c] 25 (0, 0)) := (by simp (disch := (first | omega | (simp; done) | (simp; omega))) [*])
    have hbw : Below w.heap.size w w1 := (by repeat' (first | (with_reducible exact Below.refl _ _) | (with_reducible assumption) | (with_reducible refine Below.setCell ?_ ?_ _) | (with_reducible refine Below.alloc ?_ ?_ _) | (with_reducible refine Below.drew ?_) | (with_reducible refine below_drewN ?_ _) | (with_reducible refine Below.trans ?_ (Below.mono (by with_reducible assumption) ?_)) | go_size | (simp at *; omega)))
    have HT1 := Lib.hid (HT.out.below hbw)
    have hsz1 := hbw.size
    clear hc1 hf1 hB1 hb1
    refine (DX.out w1.heap.size 3 _ (HT1.out.below (Below.alloc (Below.refl _ _) (Nat.le_refl _) _)) (by simp) ?_).mono ?_
    · intro j hj
      have hj3 : j < 3 := by simpa using hj
      rcases j with _ | _ | _ | j
      · simp [World.cell?_alloc_new]
      · simp [World.cell?_alloc_new]
      · simp [World.cell?_alloc_new]
      · omega
    rintro e w2 ⟨rfl, hb2⟩
    have hbel2 : Below w.heap.size w w2 := (Below.alloc hbw hsz1 _).trans (hb2.mono (by simp; omega))
    clear hb2
    go_wp2_with fail
    go_ret
    exact ⟨by first | (rw [HF.out]; done) | (rw [HF.out]; rfl) | (simp [HF.out]; done), hbel2⟩
theorem l11Text_any (a b c : Int) (w : World) (h1 : -10000 ≤ a ∧ a ≤ 10000) (h2 : -10000 ≤ b ∧ b ≤ 10000) (h3 : -10000 ≤ c ∧ c ≤ 10000) :
    Calls Tryd.prog 22 #[.agg #[.int .i64 a, .int .i64 b, .int .i64 c]] w fun e w' => e = .returned (.string (ftT (itB a) (itB b) (itB c))) ∧ Below w.heap.size w w' := by
  have D1 := Lib.hid (l01Dec_any a (by omega))
  have D2 := Lib.hid (l01Dec_any b (by omega))
  have D3 := Lib.hid (l01Dec_any c (by omega))
  have l1 := itB_size (n := a) (by omega)
  have l2 := itB_size (n := b) (by omega)
  have l3 := itB_size (n := c) (by omega)
  obtain ⟨R, hR⟩ : ∃ R, ftT (itB a) (itB b) (itB c) = R := ⟨_, rfl⟩
  rw [hR]
  have HF := Lib.hid hR
  clear hR
  unfold itB ftT at HF
  unfold itB at l1 l2 l3
  generalize (Lib.itoa a).toArray = A1 at *
  generalize (Lib.itoa b).toArray = A2 at *
  generalize (Lib.itoa c).toArray = A3 at *
  obtain ⟨x1, y1, z1, k1⟩ := strAddN (x := ⟨#[40]⟩) (y := ⟨A1⟩) (k := 1) (m := 20) (Nat.le_refl _) l1 (by omega)
  obtain ⟨x2, y2, z2, k2⟩ := strAddN (x := x1) (y := ⟨#[44, 32]⟩) (m := 2) z1 (Nat.le_refl _) (by omega)
  obtain ⟨x3, y3, z3, k3⟩ := strAddN (x := x2) (y := ⟨A2⟩) (m := 20) z2 l2 (by omega)
  obtain ⟨x4, y4, z4, k4⟩ := strAddN (x := x3) (y := ⟨#[44, 32]⟩) (m := 2) z3 (Nat.le_refl _) (by omega)
  obtain ⟨x5, y5, z5, k5⟩ := strAddN (x := x4) (y := ⟨A3⟩) (m := 20) z4 l3 (by omega)
  obtain ⟨x6, y6, z6, k6⟩ := strAddN (x := x5) (y := ⟨#[41]⟩) (m := 1) z5 (Nat.le_refl _) (by omega)
  rw [y1, y2, y3, y4, y5, y6] at HF
  have l1' : A1.size ≤ 20 := l1
  have l2' : A2.size ≤ 20 := l2
  have l3' : A3.size ≤ 20 := l3
  have g1 : ¬ (9223372036854775807 < 1 + A1.size) := by omega
  have g2 : ¬ (9223372036854775807 < x1.size + 2) := by omega
  have g3 : ¬ (9223372036854775807 < x2.size + A2.size) := by omega
  have g4 : ¬ (9223372036854775807 < x3.size + 2) := by omega
  have g5 : ¬ (9223372036854775807 < x4.size + A3.size) := by omega
  have g6 : ¬ (9223372036854775807 < x5.size + 1) := by omega
  have g7 : ¬ (9223372036854775807 ≤ x5.size) := by omega
  clear z1 z2 z3 z4 z5 z6 l1 l2 l3 l1' l2' l3' k1 k2 k3 k4 k5 k6
  clear h1 h2 h3
  go_enter Tryd.func22, Tryd.ntmps22
  go_wp2_with fail
  obtain ⟨V, hV⟩ : ∃ V, V = w.alloc (.cells #[.int .i64 a, .int .i64 b, .int .i64 c] 25) := ⟨_, rfl⟩
  have gB : heapAt V w.heap.size = some (.cells #[.int .i64 a, .int .i64 b, .int .i64 c] 25 (0, 0)) := by rw [hV]; exact heapAt_new w _
  have hbw : Below w.heap.size w V := by rw [hV]; exact (by repeat' (first | (with_reducible exact Below.refl _ _) | (with_reducible assumption) | (with_reducible refine Below.setCell ?_ ?_ _) | (with_reducible refine Below.alloc ?_ ?_ _) | (with_reducible refine Below.drew ?_) | (with_reducible refine below_drewN ?_ _) | (with_reducible refine Below.trans ?_ (Below.mono (by with_reducible assumption) ?_)) | go_size | (simp at *; omega)))
  rw [← hV]
  clear hV
  obtain ⟨zB, p1, p2, p3, f1, f2, f3⟩ := blk3 gB
  go_region_held3 (fun w' => Kept V w') (repeat (first | (with_reducible assumption) | (with_reducible exact kept_refl _) | (with_reducible exact kept_other (by with_reducible assumption) (by first | omega | (simp; done) | (simp; omega))) | (with_reducible refine kept_alloc ?_) | (with_reducible refine kept_drew ?_) | (with_reducible refine kept_set ?_ (by first | omega | (simp; done) | (simp; omega))) | (with_reducible refine kept_call ?_ hb1))) (first | (go_at_call 23; with_reducible refine (D1.out _).mono ?_; rintro e w1 ⟨rfl, hb1⟩; obtain ⟨hc1, hf1, hl1, hB1⟩ := bcell hb1; (try simp only [World.size_drew, cell_drew, frozen_drew, heapAt_drew] at hc1 hf1 hl1 hB1); have hz1 := hb1.size; (try simp at hz1); (try have hkA := hl1 _ hkA); (try have hkA : _ < w1.heap.size := hz1); (try have hkW : V.heap.size < w1.heap.size := by omega); (try have hk0 : w.heap.size < w1.heap.size := by omega); (try have hk1 : w.heap.size + 1 < w1.heap.size := by omega); (try have hk2 : w.heap.size + 1 + 1 < w1.heap.size := by omega)) | (go_at_call 23; with_reducible refine (D2.out _).mono ?_; rintro e w1 ⟨rfl, hb1⟩; obtain ⟨hc1, hf1, hl1, hB1⟩ := bcell hb1; (try simp only [World.size_drew, cell_drew, frozen_drew, heapAt_drew] at hc1 hf1 hl1 hB1); have hz1 := hb1.size; (try simp at hz1); (try have hkA := hl1 _ hkA); (try have hkA : _ < w1.heap.size := hz1); (try have hkW : V.heap.size < w1.heap.size := by omega); (try have hk0 : w.heap.size < w1.heap.size := by omega); (try have hk1 : w.heap.size + 1 < w1.heap.size := by omega); (try have hk2 : w.heap.size + 1 + 1 < w1.heap.size := by omega)) | (go_at_call 23; with_reducible refine (D3.out _).mono ?_; rintro e w1 ⟨rfl, hb1⟩; obtain ⟨hc1, hf1, hl1, hB1⟩ := bcell hb1; (try simp only [World.size_drew, cell_drew, frozen_drew, heapAt_drew] at hc1 hf1 hl1 hB1); have hz1 := hb1.size; (try simp at hz1); (try have hkA := hl1 _ hkA); (try have hkA : _ < w1.heap.size := hz1); (try have hkW : V.heap.size < w1.heap.size := by omega); (try have hk0 : w.heap.size < w1.heap.size := by omega); (try have hk1 : w.heap.size + 1 < w1.heap.size := by omega); (try have hk2 : w.heap.size + 1 + 1 < w1.heap.size := by omega)))
  all_goals
    go_wp2_with fail
    go_ret
    exact ⟨by first | (rw [← HF.out]; done) | (rw [← HF.out]; rfl), (by repeat' (first | (with_reducible exact Below.refl _ _) | (with_reducible assumption) | (with_reducible refine Below.setCell ?_ ?_ _) | (with_reducible refine Below.alloc ?_ ?_ _) | (with_reducible refine Below.drew ?_) | (with_reducible refine below_drewN ?_ _) | (with_reducible refine Below.trans ?_ (Below.mono (by with_reducible assumption) ?_)) | go_size | (simp at *; omega)))⟩
end Go.Proofs.YtodbmnbahldabaaDoor
