/- Numbers that a definite form shows: the first pair: both packages, and the law. -/
import Derived.Test.YtodbmnbahldabaaDoorRepC
namespace Go.Proofs.YtodbmnbahldabaaDoor
open Go.ChangeShapes Go.WideShapes Go.ChangeAt Go.RowKit
set_option linter.unusedVariables false
set_option maxHeartbeats 1000000
/-- From a Y on: the first pair. -/
def rpF (a b c n : Int) : Nat → Nat → Int × Int × Bool
  | 0, _ => (0, 0, false)
  | k + 1, y => match plF a b c n y with
    | x :: _ => (x, (y : Int), true)
    | [] => rpF a b c n k (y + 1)
theorem rp_no {a b c n : Int} {k y : Nat} (h : plF a b c n y = []) : rpF a b c n (k + 1) y = rpF a b c n k (y + 1) := by
  conv => lhs; unfold rpF
  rw [h]
theorem rp_yes {a b c n : Int} {k y : Nat} {x : Int} {t : List Int} (h : plF a b c n y = x :: t) : rpF a b c n (k + 1) y = (x, (y : Int), true) := by
  unfold rpF
  rw [h]
def rpR (a b c n : Int) : Int × Int × Bool := rpF a b c n ((hiY a b c n).toNat + 1) 0
theorem representBy_any (a b c n : Int) (w : World) (hv : vF a b c = true) (hd : dF a b c < 0) (hn : 1 ≤ n ∧ n ≤ 10000) :
    Calls Tryd.prog 30 #[.agg #[.int .i64 a, .int .i64 b, .int .i64 c], .int .i64 n] w fun e w' => e = .returned (.tuple #[.int .i64 (rpR a b c n).1, .int .i64 (rpR a b c n).2.1, .bool (rpR a b c n).2.2]) ∧ Below w.heap.size w w' := by
  obtain ⟨-, -, -, h4⟩ := hi_facts hv hd hn
  have HR : Hid (rpF a b c n ((hiY a b c n).toNat + 1) 0 = rpR a b c n) := Lib.hid rfl
  have HV := Lib.hid hv
  have HD := Lib.hid hd
  generalize rpR a b c n = R at *
  clear hv hd
  go_enter Tryd.func30, Tryd.ntmps30
  go_wp2_with fail
  go_loopg [7] ((hiY a b c n).toNat + 1) (fun k u wr => ∃ i : Nat, u = .int .i64 i ∧ (i : Int) + k = hiY a b c n + 1 ∧ Hid (rpF a b c n k i = R) ∧ heapAt wr w.heap.size = some (.cells #[.int .i64 a, .int .i64 b, .int .i64 c] 25 (0, 0)) ∧ Below w.heap.size w wr)
  case atStart => exact ⟨0, rfl, by omega, HR, (by simp (disch := (first | omega | (simp; done) | (simp; omega))) [*]), (by repeat' (first | (with_reducible exact Below.refl _ _) | (with_reducible assumption) | (with_reducible refine Below.setCell ?_ ?_ _) | (with_reducible refine Below.alloc ?_ ?_ _) | (with_reducible refine Below.drew ?_) | (with_reducible refine below_drewN ?_ _) | (with_reducible refine Below.trans ?_ (Below.mono (by with_reducible assumption) ?_)) | go_size | (simp at *; omega)))⟩
  case round =>
    obtain ⟨i, rfl, hik, HI, hx, hbel⟩ := hrel
    obtain ⟨p0, p1, p2, p3, p4, p5, p6⟩ := blk3 hx
    have hsz := hbel.size
    by_cases hlt : (i : Int) ≤ hiY a b c n
    · obtain ⟨k', rfl⟩ : ∃ k', gk = k' + 1 := ⟨gk - 1, by omega⟩
      go_wp2_with fail; refine (highestY_any _ _ _ _ _ HV.out HD.out hn).mono ?_; rintro e w1 ⟨rfl, hb1⟩; obtain ⟨hc1, hf1, -, hB1⟩ := bcell hb1; have hz1 := hb1.size; (try simp at hz1); (try have hk1_0 : w.heap.size < w1.heap.size := by omega); (try have hk1_1 : w.heap.size + 1 < w1.heap.size := by omega); (try have hk1_2 : w.heap.size + 1 + 1 < w1.heap.size := by omega); (try have hk1_3 : w.heap.size + 1 + 1 + 1 < w1.heap.size := by omega); (try have hk1_4 : wr.heap.size < w1.heap.size := by omega); (try have hk1_5 : wr.heap.size + 1 < w1.heap.size := by omega)
      go_wp2_with fail
      refine (placesAt_any a b c n i _ HV.out HD.out hn (by omega)).mono ?_
      intro e w2 hr
      unfold RetL1 at hr
      obtain ⟨v, rfl, o2, hb2⟩ := hr
      have O2 := Lib.hid o2
      clear o2
      obtain ⟨hc2, hf2, -, hB2⟩ := bcell hb2; have hz2 := hb2.size; (try simp at hz2); (try have hk2_0 : w.heap.size < w2.heap.size := by omega); (try have hk2_1 : w.heap.size + 1 < w2.heap.size := by omega); (try have hk2_2 : w.heap.size + 1 + 1 < w2.heap.size := by omega); (try have hk2_3 : w.heap.size + 1 + 1 + 1 < w2.heap.size := by omega); (try have hk2_4 : wr.heap.size < w2.heap.size := by omega); (try have hk2_5 : wr.heap.size + 1 < w2.heap.size := by omega); (try have hk2_6 : w1.heap.size < w2.heap.size := by omega); (try have hk2_7 : w1.heap.size + 1 < w2.heap.size := by omega)
      have hbel2 : Below w.heap.size w w2 := (by repeat' (first | (with_reducible exact Below.refl _ _) | (with_reducible assumption) | (with_reducible refine Below.setCell ?_ ?_ _) | (with_reducible refine Below.alloc ?_ ?_ _) | (with_reducible refine Below.drew ?_) | (with_reducible refine below_drewN ?_ _) | (with_reducible refine Below.trans ?_ (Below.mono (by with_reducible assumption) ?_)) | go_size | (simp at *; omega)))
      have hx2 : heapAt w2 w.heap.size = some (.cells #[.int .i64 a, .int .i64 b, .int .i64 c] 25 (0, 0)) := (by simp (disch := (first | omega | (simp; done) | (simp; omega))) [*])
      rcases hL : plF a b c n i with _ | ⟨x, t⟩
      · rw [hL] at O2
        have HN : Hid (rpF a b c n k' (i + 1) = R) := Lib.hid ((rp_no hL).symm.trans HI.out)
        obtain ⟨ao, cap, hv⟩ := O2.out.len
        subst hv
        clear hL
        go_wp2_with fail
        go_roundg k'
        case measure => omega
        case rel => exact ⟨i + 1, by go_num, by omega, HN, hx2, hbel2⟩
      · rw [hL] at O2
        have HN : Hid (R = (x, (i : Int), true)) := Lib.hid (HI.out.symm.trans (rp_yes hL))
        have hle := plF_len a b c n i
        rw [hL, List.length_cons] at hle
        clear hL
        have hl : 0 < (x :: t).length := by simp
        obtain ⟨g, cap, hv⟩ : ∃ g cap, v = .slice (some ⟨g, 0, none⟩) (x :: t).length cap := by
          rcases O2.out.shape with ⟨h, _⟩ | ⟨_, g, cap, h, _⟩
          · cases h
          · exact ⟨g, cap, h⟩
        subst hv
        have x1 := OwnI.cells O2.out 0 hl
        have x2 : (x :: t)[0]'hl = x := rfl
        rw [x2] at x1
        have l0 : (0 : Int) < (t.length : Int) + 1 := by omega
        go_wp2_with fail
        go_ret3
        exact ⟨by rw [HN.out]; rfl, hbel2⟩
    · have hk : gk = 0 := by omega
      subst hk
      have HN : Hid (R = (0, 0, false)) := Lib.hid HI.out.symm
      go_wp2_with fail; refine (highestY_any _ _ _ _ _ HV.out HD.out hn).mono ?_; rintro e w1 ⟨rfl, hb1⟩; obtain ⟨hc1, hf1, -, hB1⟩ := bcell hb1; have hz1 := hb1.size; (try simp at hz1); (try have hk1_0 : w.heap.size < w1.heap.size := by omega); (try have hk1_1 : w.heap.size + 1 < w1.heap.size := by omega); (try have hk1_2 : w.heap.size + 1 + 1 < w1.heap.size := by omega); (try have hk1_3 : w.heap.size + 1 + 1 + 1 < w1.heap.size := by omega); (try have hk1_4 : wr.heap.size < w1.heap.size := by omega); (try have hk1_5 : wr.heap.size + 1 < w1.heap.size := by omega)
      go_wp2_with fail
      go_ret3
      exact ⟨by rw [HN.out]; rfl, (by repeat' (first | (with_reducible exact Below.refl _ _) | (with_reducible assumption) | (with_reducible refine Below.setCell ?_ ?_ _) | (with_reducible refine Below.alloc ?_ ?_ _) | (with_reducible refine Below.drew ?_) | (with_reducible refine below_drewN ?_ _) | (with_reducible refine Below.trans ?_ (Below.mono (by with_reducible assumption) ?_)) | go_size | (simp at *; omega)))⟩
def repR (a b c n : Int) : Int × Int × Int := if chS a b c (inR n 1 10000) = 0 then (if (rpR a b c n).2.2 = true then ((rpR a b c n).1, (rpR a b c n).2.1, 0) else (0, 0, 3)) else (0, 0, chS a b c (inR n 1 10000))
theorem withinR {n lo hi : Int} {b : Bool} (h : inR n lo hi = b) (w : World) :
    Calls Tryd.prog 29 #[.int .i64 n, .int .i64 lo, .int .i64 hi] w fun e w' => e = .returned (.bool b) ∧ w = w' := by
  subst h
  exact within_any _ _ _ _
theorem iRepresentBy_any (a b c n : Int) (w : World) :
    Calls Tryd.prog 10 #[.agg #[.int .i64 a, .int .i64 b, .int .i64 c], .int .i64 n] w fun e w' => e = .returned (.tuple #[.int .i64 (repR a b c n).1, .int .i64 (repR a b c n).2.1, .int .i64 (repR a b c n).2.2]) ∧ Below w.heap.size w w' := by
  obtain ⟨fits, hfits⟩ : ∃ b, inR n 1 10000 = b := ⟨_, rfl⟩
  have HI := Lib.hid hfits
  by_cases hc : chS a b c fits = 0
  · obtain ⟨hv, hf, hd⟩ := chS_zero hc
    have hn := inR_iff.1 (hfits.trans hf)
    subst hf
    have HV := Lib.hid hv
    have HD := Lib.hid hd
    have HB := Lib.hid (representBy_any a b c n · hv hd hn)
    have HQ : Hid (repR a b c n = if (rpR a b c n).2.2 = true then ((rpR a b c n).1, (rpR a b c n).2.1, 0) else (0, 0, 3)) := Lib.hid (by simp [repR, hfits, hc])
    clear hv hd hfits
    generalize rpR a b c n = Rp at *
    generalize repR a b c n = Q at *
    obtain ⟨px, py, ok⟩ := Rp
    simp only at HB HQ
    cases ok
    · have HF : Hid (Q = (0, 0, 3)) := Lib.hid (by rw [HQ.out]; rfl)
      go_enter Tryd.func10, Tryd.ntmps10
      go_wp2_with fail
      have hx0 : heapAt (w.alloc (.cells #[.int .i64 a, .int .i64 b, .int .i64 c] 25)) w.heap.size = some (.cells #[.int .i64 a, .int .i64 b, .int .i64 c] 25 (0, 0)) := (by simp (disch := (first | omega | (simp; done) | (simp; omega))) [*])
      obtain ⟨p0, p1, p2, p3, p4, p5, p6⟩ := blk3 hx0
      go_region_held3 (fun w' => w'.cell? ⟨w.heap.size, 0, none⟩ = some (.int .i64 a) ∧ w'.cell? ⟨w.heap.size, 1, none⟩ = some (.int .i64 b) ∧ w'.cell? ⟨w.heap.size, 2, none⟩ = some (.int .i64 c)) (first | assumption | exact ⟨p1, p2, p3⟩ | (refine ⟨?_, ?_, ?_⟩ <;> ((rw [hc1 _ _ (by first | omega | (simp; done) | (simp; omega))]) <;> first | assumption | exact p1 | exact p2 | exact p3 | (obtain ⟨_, _, _⟩ := ‹World.cell? _ _ = _ ∧ _ ∧ _›; assumption) | (simp [*]; done)))) (first | (go_at_call 29; refine (withinR HI.out _).mono ?_; rintro e w1 ⟨rfl, rfl⟩) | (go_at_call 28; refine (checkShown_any _ _ _ _ _).mono ?_; rintro e w1 ⟨rfl, hb1⟩; obtain ⟨hc1, hf1, hl1, hB1⟩ := bcell hb1; have hz1 := hb1.size; (try simp at hz1); (try have hk0 : w.heap.size < w1.heap.size := by omega); (try have hk1 : w.heap.size + 1 < w1.heap.size := by omega); (try have hk2 : w.heap.size + 1 + 1 < w1.heap.size := by omega)))
      have hbel1 : Below w.heap.size w w1 := (by repeat' (first | (with_reducible exact Below.refl _ _) | (with_reducible assumption) | (with_reducible refine Below.setCell ?_ ?_ _) | (with_reducible refine Below.alloc ?_ ?_ _) | (with_reducible refine Below.drew ?_) | (with_reducible refine below_drewN ?_ _) | (with_reducible refine Below.trans ?_ (Below.mono (by with_reducible assumption) ?_)) | go_size | (simp at *; omega)))
      have hx1 : heapAt w1 w.heap.size = some (.cells #[.int .i64 a, .int .i64 b, .int .i64 c] 25 (0, 0)) := (by simp (disch := (first | omega | (simp; done) | (simp; omega))) [*])
      clear p0 p1 p2 p3 p4 p5 p6 hx0 hb1 hc1 hf1 hl1 hB1
      obtain ⟨p0, p1, p2, p3, p4, p5, p6⟩ := blk3 hx1
      go_wp2_with fail
      refine (HB.out _).mono ?_
      rintro e w2 ⟨rfl, hb2⟩
      have hbel2 : Below w.heap.size w w2 := (by repeat' (first | (with_reducible exact Below.refl _ _) | (with_reducible assumption) | (with_reducible refine Below.setCell ?_ ?_ _) | (with_reducible refine Below.alloc ?_ ?_ _) | (with_reducible refine Below.drew ?_) | (with_reducible refine below_drewN ?_ _) | (with_reducible refine Below.trans ?_ (Below.mono (by with_reducible assumption) ?_)) | go_size | (simp at *; omega)))
      go_wp2_with fail
      go_ret3
      exact ⟨by rw [HF.out]; rfl, hbel2⟩
    · have HF : Hid (Q = (px, py, 0)) := Lib.hid (by rw [HQ.out]; rfl)
      go_enter Tryd.func10, Tryd.ntmps10
      go_wp2_with fail
      have hx0 : heapAt (w.alloc (.cells #[.int .i64 a, .int .i64 b, .int .i64 c] 25)) w.heap.size = some (.cells #[.int .i64 a, .int .i64 b, .int .i64 c] 25 (0, 0)) := (by simp (disch := (first | omega | (simp; done) | (simp; omega))) [*])
      obtain ⟨p0, p1, p2, p3, p4, p5, p6⟩ := blk3 hx0
      go_region_held3 (fun w' => w'.cell? ⟨w.heap.size, 0, none⟩ = some (.int .i64 a) ∧ w'.cell? ⟨w.heap.size, 1, none⟩ = some (.int .i64 b) ∧ w'.cell? ⟨w.heap.size, 2, none⟩ = some (.int .i64 c)) (first | assumption | exact ⟨p1, p2, p3⟩ | (refine ⟨?_, ?_, ?_⟩ <;> ((rw [hc1 _ _ (by first | omega | (simp; done) | (simp; omega))]) <;> first | assumption | exact p1 | exact p2 | exact p3 | (obtain ⟨_, _, _⟩ := ‹World.cell? _ _ = _ ∧ _ ∧ _›; assumption) | (simp [*]; done)))) (first | (go_at_call 29; refine (withinR HI.out _).mono ?_; rintro e w1 ⟨rfl, rfl⟩) | (go_at_call 28; refine (checkShown_any _ _ _ _ _).mono ?_; rintro e w1 ⟨rfl, hb1⟩; obtain ⟨hc1, hf1, hl1, hB1⟩ := bcell hb1; have hz1 := hb1.size; (try simp at hz1); (try have hk0 : w.heap.size < w1.heap.size := by omega); (try have hk1 : w.heap.size + 1 < w1.heap.size := by omega); (try have hk2 : w.heap.size + 1 + 1 < w1.heap.size := by omega)))
      have hbel1 : Below w.heap.size w w1 := (by repeat' (first | (with_reducible exact Below.refl _ _) | (with_reducible assumption) | (with_reducible refine Below.setCell ?_ ?_ _) | (with_reducible refine Below.alloc ?_ ?_ _) | (with_reducible refine Below.drew ?_) | (with_reducible refine below_drewN ?_ _) | (with_reducible refine Below.trans ?_ (Below.mono (by with_reducible assumption) ?_)) | go_size | (simp at *; omega)))
      have hx1 : heapAt w1 w.heap.size = some (.cells #[.int .i64 a, .int .i64 b, .int .i64 c] 25 (0, 0)) := (by simp (disch := (first | omega | (simp; done) | (simp; omega))) [*])
      clear p0 p1 p2 p3 p4 p5 p6 hx0 hb1 hc1 hf1 hl1 hB1
      obtain ⟨p0, p1, p2, p3, p4, p5, p6⟩ := blk3 hx1
      go_wp2_with fail
      refine (HB.out _).mono ?_
      rintro e w2 ⟨rfl, hb2⟩
      have hbel2 : Below w.heap.size w w2 := (by repeat' (first | (with_reducible exact Below.refl _ _) | (with_reducible assumption) | (with_reducible refine Below.setCell ?_ ?_ _) | (with_reducible refine Below.alloc ?_ ?_ _) | (with_reducible refine Below.drew ?_) | (with_reducible refine below_drewN ?_ _) | (with_reducible refine Below.trans ?_ (Below.mono (by with_reducible assumption) ?_)) | go_size | (simp at *; omega)))
      go_wp2_with fail
      go_ret3
      exact ⟨by rw [HF.out]; rfl, hbel2⟩
  · have HF : Hid (repR a b c n = (0, 0, chS a b c fits)) := Lib.hid (by simp [repR, hfits, hc])
    have hcb : (chS a b c fits != 0) = true := by simp [hc]
    clear hc hfits
    go_enter Tryd.func10, Tryd.ntmps10
    go_wp2_with fail
    have hx0 : heapAt (w.alloc (.cells #[.int .i64 a, .int .i64 b, .int .i64 c] 25)) w.heap.size = some (.cells #[.int .i64 a, .int .i64 b, .int .i64 c] 25 (0, 0)) := (by simp (disch := (first | omega | (simp; done) | (simp; omega))) [*])
    obtain ⟨p0, p1, p2, p3, p4, p5, p6⟩ := blk3 hx0
    go_region_held3 (fun w' => w'.cell? ⟨w.heap.size, 0, none⟩ = some (.int .i64 a) ∧ w'.cell? ⟨w.heap.size, 1, none⟩ = some (.int .i64 b) ∧ w'.cell? ⟨w.heap.size, 2, none⟩ = some (.int .i64 c)) (first | assumption | exact ⟨p1, p2, p3⟩ | (refine ⟨?_, ?_, ?_⟩ <;> ((rw [hc1 _ _ (by first | omega | (simp; done) | (simp; omega))]) <;> first | assumption | exact p1 | exact p2 | exact p3 | (obtain ⟨_, _, _⟩ := ‹World.cell? _ _ = _ ∧ _ ∧ _›; assumption) | (simp [*]; done)))) (first | (go_at_call 29; refine (withinR HI.out _).mono ?_; rintro e w1 ⟨rfl, rfl⟩) | (go_at_call 28; refine (checkShown_any _ _ _ _ _).mono ?_; rintro e w1 ⟨rfl, hb1⟩; obtain ⟨hc1, hf1, hl1, hB1⟩ := bcell hb1; have hz1 := hb1.size; (try simp at hz1); (try have hk0 : w.heap.size < w1.heap.size := by omega); (try have hk1 : w.heap.size + 1 < w1.heap.size := by omega); (try have hk2 : w.heap.size + 1 + 1 < w1.heap.size := by omega)))
    have hbel1 : Below w.heap.size w w1 := (by repeat' (first | (with_reducible exact Below.refl _ _) | (with_reducible assumption) | (with_reducible refine Below.setCell ?_ ?_ _) | (with_reducible refine Below.alloc ?_ ?_ _) | (with_reducible refine Below.drew ?_) | (with_reducible refine below_drewN ?_ _) | (with_reducible refine Below.trans ?_ (Below.mono (by with_reducible assumption) ?_)) | go_size | (simp at *; omega)))
    have hx1 : heapAt w1 w.heap.size = some (.cells #[.int .i64 a, .int .i64 b, .int .i64 c] 25 (0, 0)) := (by simp (disch := (first | omega | (simp; done) | (simp; omega))) [*])
    clear p0 p1 p2 p3 p4 p5 p6 hx0 hb1 hc1 hf1 hl1 hB1
    obtain ⟨p0, p1, p2, p3, p4, p5, p6⟩ := blk3 hx1
    go_wp2_with fail
    go_ret3
    exact ⟨by rw [HF.out]; rfl, (by repeat' (first | (with_reducible exact Below.refl _ _) | (with_reducible assumption) | (with_reducible refine Below.setCell ?_ ?_ _) | (with_reducible refine Below.alloc ?_ ?_ _) | (with_reducible refine Below.drew ?_) | (with_reducible refine below_drewN ?_ _) | (with_reducible refine Below.trans ?_ (Below.mono (by with_reducible assumption) ?_)) | go_size | (simp at *; omega)))⟩
theorem sRepresentBy_any (a b c n : Int) (w : World) :
    Calls Tryd.prog 11 #[.agg #[.int .i64 a, .int .i64 b, .int .i64 c], .int .i64 n] w fun e w' => e = .returned (.tuple #[.int .i64 (repR a b c n).1, .int .i64 (repR a b c n).2.1, .int .i64 (repR a b c n).2.2]) ∧ Below w.heap.size w w' := by
  by_cases hc : chS a b c (inR n 1 10000) = 0
  · obtain ⟨hv, hf, hd⟩ := chS_zero hc
    have hn := inR_iff.1 hf
    obtain ⟨-, -, -, h4⟩ := hi_facts hv hd hn
    have HV := Lib.hid hv
    have HD := Lib.hid hd
    have HR : Hid (rpF a b c n ((hiY a b c n).toNat + 1) 0 = rpR a b c n) := Lib.hid rfl
    have HQ : Hid (repR a b c n = if (rpR a b c n).2.2 = true then ((rpR a b c n).1, (rpR a b c n).2.1, 0) else (0, 0, 3)) := Lib.hid (by simp [repR, hc])
    generalize rpR a b c n = R at *
    generalize repR a b c n = Q at *
    have hc' := Lib.hid hc
    clear hf hv hd
    go_enter Tryd.func11, Tryd.ntmps11
    go_wp2_with fail; refine (l12Code_any _ _ _ _ _).mono ?_; rintro e w1 ⟨rfl, hb1⟩; obtain ⟨hc1, hf1, -, hB1⟩ := bcell hb1; have hz1 := hb1.size; (try simp at hz1); (try have hk1_0 : w.heap.size < w1.heap.size := by omega); (try have hk1_1 : w.heap.size + 1 < w1.heap.size := by omega); (try have hk1_2 : w.heap.size + 1 + 1 < w1.heap.size := by omega); (try have hk1_3 : w.heap.size + 1 + 1 + 1 < w1.heap.size := by omega); (try have hk1_4 : wr.heap.size < w1.heap.size := by omega); (try have hk1_5 : wr.heap.size + 1 < w1.heap.size := by omega)
    go_wp2_with fail
    clear hc
    go_loopg [8] ((hiY a b c n).toNat + 1) (fun k u wr => ∃ i : Nat, u = .int .i64 i ∧ (i : Int) + k = hiY a b c n + 1 ∧ Hid (rpF a b c n k i = R) ∧ heapAt wr w.heap.size = some (.cells #[.int .i64 a, .int .i64 b, .int .i64 c] 25 (0, 0)) ∧ Below w.heap.size w wr)
    case atStart => exact ⟨0, rfl, by omega, HR, (by simp (disch := (first | omega | (simp; done) | (simp; omega))) [*]), (by repeat' (first | (with_reducible exact Below.refl _ _) | (with_reducible assumption) | (with_reducible refine Below.setCell ?_ ?_ _) | (with_reducible refine Below.alloc ?_ ?_ _) | (with_reducible refine Below.drew ?_) | (with_reducible refine below_drewN ?_ _) | (with_reducible refine Below.trans ?_ (Below.mono (by with_reducible assumption) ?_)) | go_size | (simp at *; omega)))⟩
    case round =>
      obtain ⟨i, rfl, hik, HI, hx, hbel⟩ := hrel
      obtain ⟨p0, p1, p2, p3, p4, p5, p6⟩ := blk3 hx
      have hsz := hbel.size
      by_cases hlt : (i : Int) ≤ hiY a b c n
      · obtain ⟨k', rfl⟩ : ∃ k', gk = k' + 1 := ⟨gk - 1, by omega⟩
        go_wp2_with fail; refine (l12Most_any _ _ _ _ _ HV.out HD.out hn).mono ?_; rintro e w1 ⟨rfl, hb1⟩; obtain ⟨hc1, hf1, -, hB1⟩ := bcell hb1; have hz1 := hb1.size; (try simp at hz1); (try have hk1_0 : w.heap.size < w1.heap.size := by omega); (try have hk1_1 : w.heap.size + 1 < w1.heap.size := by omega); (try have hk1_2 : w.heap.size + 1 + 1 < w1.heap.size := by omega); (try have hk1_3 : w.heap.size + 1 + 1 + 1 < w1.heap.size := by omega); (try have hk1_4 : wr.heap.size < w1.heap.size := by omega); (try have hk1_5 : wr.heap.size + 1 < w1.heap.size := by omega)
        go_wp2_with fail
        refine (l12Xs_any a b c n i _ HV.out HD.out hn (by omega)).mono ?_
        intro e w2 hr
        unfold RetL1 at hr
        obtain ⟨v, rfl, o2, hb2⟩ := hr
        have O2 := Lib.hid o2
        clear o2
        obtain ⟨hc2, hf2, -, hB2⟩ := bcell hb2; have hz2 := hb2.size; (try simp at hz2); (try have hk2_0 : w.heap.size < w2.heap.size := by omega); (try have hk2_1 : w.heap.size + 1 < w2.heap.size := by omega); (try have hk2_2 : w.heap.size + 1 + 1 < w2.heap.size := by omega); (try have hk2_3 : w.heap.size + 1 + 1 + 1 < w2.heap.size := by omega); (try have hk2_4 : wr.heap.size < w2.heap.size := by omega); (try have hk2_5 : wr.heap.size + 1 < w2.heap.size := by omega); (try have hk2_6 : w1.heap.size < w2.heap.size := by omega); (try have hk2_7 : w1.heap.size + 1 < w2.heap.size := by omega)
        have hbel2 : Below w.heap.size w w2 := (by repeat' (first | (with_reducible exact Below.refl _ _) | (with_reducible assumption) | (with_reducible refine Below.setCell ?_ ?_ _) | (with_reducible refine Below.alloc ?_ ?_ _) | (with_reducible refine Below.drew ?_) | (with_reducible refine below_drewN ?_ _) | (with_reducible refine Below.trans ?_ (Below.mono (by with_reducible assumption) ?_)) | go_size | (simp at *; omega)))
        have hx2 : heapAt w2 w.heap.size = some (.cells #[.int .i64 a, .int .i64 b, .int .i64 c] 25 (0, 0)) := (by simp (disch := (first | omega | (simp; done) | (simp; omega))) [*])
        rcases hL : plF a b c n i with _ | ⟨x, t⟩
        · rw [hL] at O2
          have HN : Hid (rpF a b c n k' (i + 1) = R) := Lib.hid ((rp_no hL).symm.trans HI.out)
          obtain ⟨ao, cap, hv⟩ := O2.out.len
          subst hv
          clear hL
          go_wp2_with fail
          go_roundg k'
          case measure => omega
          case rel => exact ⟨i + 1, by go_num, by omega, HN, hx2, hbel2⟩
        · rw [hL] at O2
          have HN : Hid (R = (x, (i : Int), true)) := Lib.hid (HI.out.symm.trans (rp_yes hL))
          have hle := plF_len a b c n i
          rw [hL, List.length_cons] at hle
          clear hL
          rw [List.reverse_cons] at O2
          have hl : t.reverse.length < (t.reverse ++ [x]).length := by simp
          obtain ⟨m, hm⟩ : ∃ m, t.reverse.length = m := ⟨_, rfl⟩
          have hlen : (t.reverse ++ [x]).length = m + 1 := by rw [List.length_append, hm]; rfl
          obtain ⟨g, cap, hv⟩ : ∃ g cap, v = .slice (some ⟨g, 0, none⟩) (m + 1) cap := by
            rcases O2.out.shape with ⟨h, _⟩ | ⟨_, g, cap, h, _⟩
            · simp at h
            · exact ⟨g, cap, by rw [h, hlen]⟩
          subst hv
          have x1 := OwnI.cells (by have h := O2.out; rw [← hlen] at h; exact h) t.reverse.length hl
          have x2 : (t.reverse ++ [x])[t.reverse.length]'hl = x := by simp
          rw [x2, hm] at x1
          have l2 : (m : Int) ≤ 2 := by rw [List.length_reverse] at hm; omega
          clear x2 hl hlen hm
          have l0 : (0 : Int) ≤ (m : Int) := by omega
          have l1 : (0 : Int) < (m : Int) + 1 := by omega
          go_wp2_with fail
          go_ret3
          exact ⟨by rw [HQ.out, HN.out]; rfl, hbel2⟩
      · have hk : gk = 0 := by omega
        subst hk
        have HN : Hid (R = (0, 0, false)) := Lib.hid HI.out.symm
        go_wp2_with fail; refine (l12Most_any _ _ _ _ _ HV.out HD.out hn).mono ?_; rintro e w1 ⟨rfl, hb1⟩; obtain ⟨hc1, hf1, -, hB1⟩ := bcell hb1; have hz1 := hb1.size; (try simp at hz1); (try have hk1_0 : w.heap.size < w1.heap.size := by omega); (try have hk1_1 : w.heap.size + 1 < w1.heap.size := by omega); (try have hk1_2 : w.heap.size + 1 + 1 < w1.heap.size := by omega); (try have hk1_3 : w.heap.size + 1 + 1 + 1 < w1.heap.size := by omega); (try have hk1_4 : wr.heap.size < w1.heap.size := by omega); (try have hk1_5 : wr.heap.size + 1 < w1.heap.size := by omega)
        go_wp2_with fail
        go_ret3
        exact ⟨by rw [HQ.out, HN.out]; rfl, (by repeat' (first | (with_reducible exact Below.refl _ _) | (with_reducible assumption) | (with_reducible refine Below.setCell ?_ ?_ _) | (with_reducible refine Below.alloc ?_ ?_ _) | (with_reducible refine Below.drew ?_) | (with_reducible refine below_drewN ?_ _) | (with_reducible refine Below.trans ?_ (Below.mono (by with_reducible assumption) ?_)) | go_size | (simp at *; omega)))⟩
  · have HF : Hid (repR a b c n = (0, 0, chS a b c (inR n 1 10000))) := Lib.hid (by simp [repR, hc])
    have hcb : (chS a b c (inR n 1 10000) != 0) = true := by simp [hc]
    clear hc
    go_enter Tryd.func11, Tryd.ntmps11
    go_wp2_with fail; refine (l12Code_any _ _ _ _ _).mono ?_; rintro e w1 ⟨rfl, hb1⟩; obtain ⟨hc1, hf1, -, hB1⟩ := bcell hb1; have hz1 := hb1.size; (try simp at hz1); (try have hk1_0 : w.heap.size < w1.heap.size := by omega); (try have hk1_1 : w.heap.size + 1 < w1.heap.size := by omega); (try have hk1_2 : w.heap.size + 1 + 1 < w1.heap.size := by omega); (try have hk1_3 : w.heap.size + 1 + 1 + 1 < w1.heap.size := by omega); (try have hk1_4 : wr.heap.size < w1.heap.size := by omega); (try have hk1_5 : wr.heap.size + 1 < w1.heap.size := by omega)
    go_wp2_with fail
    go_ret3
    exact ⟨by rw [HF.out]; rfl, (by repeat' (first | (with_reducible exact Below.refl _ _) | (with_reducible assumption) | (with_reducible refine Below.setCell ?_ ?_ _) | (with_reducible refine Below.alloc ?_ ?_ _) | (with_reducible refine Below.drew ?_) | (with_reducible refine below_drewN ?_ _) | (with_reducible refine Below.trans ?_ (Below.mono (by with_reducible assumption) ?_)) | go_size | (simp at *; omega)))⟩
end Go.Proofs.YtodbmnbahldabaaDoor
