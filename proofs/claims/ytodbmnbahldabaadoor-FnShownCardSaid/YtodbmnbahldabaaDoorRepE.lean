/- Numbers that a definite form shows: how many pairs: both packages, and the law. -/
import Derived.Test.YtodbmnbahldabaaDoorRepD
namespace Go.Proofs.YtodbmnbahldabaaDoor
open Go.ChangeShapes Go.WideShapes Go.ChangeAt Go.RowKit
set_option linter.unusedVariables false
set_option maxHeartbeats 1000000
def sR (f : Int → Int) (a : Int) : Nat → Int
  | 0 => 0
  | k + 1 => sR f a k + f (a + k)
def cS (f : Int → Int) : Nat → Int
  | 0 => f 0
  | m + 1 => cS f m + 2 * f ((m + 1 : Nat) : Int)
theorem sR_front (f : Int → Int) : ∀ (k : Nat) (a : Int), sR f a (k + 1) = f a + sR f (a + 1) k := by
  intro k
  induction k with
  | zero => intro a; simp [sR]
  | succ k ih =>
    intro a
    have h1 : sR f a (k + 1 + 1) = sR f a (k + 1) + f (a + ((k + 1 : Nat) : Int)) := rfl
    have h2 : sR f (a + 1) (k + 1) = sR f (a + 1) k + f (a + 1 + (k : Int)) := rfl
    rw [h1, ih, h2, show a + ((k + 1 : Nat) : Int) = a + 1 + (k : Int) by omega]
    omega
theorem sR_sym (f : Int → Int) (hf : ∀ y, f (-y) = f y) (m : Nat) : sR f (-(m : Int)) (2 * m + 1) = cS f m := by
  induction m with
  | zero => simp [sR, cS]
  | succ m ih =>
    have e : 2 * (m + 1) + 1 = (2 * m + 1 + 1) + 1 := by omega
    rw [e, sR_front]
    have h1 : sR f (-((m + 1 : Nat) : Int) + 1) (2 * m + 1 + 1) = sR f (-((m + 1 : Nat) : Int) + 1) (2 * m + 1) + f (-((m + 1 : Nat) : Int) + 1 + ((2 * m + 1 : Nat) : Int)) := rfl
    have e2 : -((m + 1 : Nat) : Int) + 1 = -(m : Int) := by omega
    have e3 : -(m : Int) + ((2 * m + 1 : Nat) : Int) = ((m + 1 : Nat) : Int) := by omega
    rw [h1, e2, ih, e3, hf]
    have h4 : cS f (m + 1) = cS f m + 2 * f ((m + 1 : Nat) : Int) := rfl
    rw [h4]
    omega
theorem sR_b {f : Int → Int} (hf : ∀ y, 0 ≤ f y ∧ f y ≤ 2) (a : Int) (k : Nat) : 0 ≤ sR f a k ∧ sR f a k ≤ 2 * k := by
  induction k with
  | zero => simp [sR]
  | succ k ih =>
    have := hf (a + k)
    unfold sR
    omega
theorem cS_b {f : Int → Int} (hf : ∀ y, 0 ≤ f y ∧ f y ≤ 2) (m : Nat) : 0 ≤ cS f m ∧ cS f m ≤ 4 * m + 2 := by
  induction m with
  | zero => have := hf 0; unfold cS; omega
  | succ m ih =>
    have := hf ((m + 1 : Nat) : Int)
    unfold cS
    omega
/-- How many places there are at one Y. -/
def plN (a b c n y : Int) : Int := ((plF a b c n y).length : Int)
theorem plN_b (a b c n : Int) (y : Int) : 0 ≤ plN a b c n y ∧ plN a b c n y ≤ 2 := by
  have := plF_len a b c n y
  unfold plN
  omega
theorem plN_neg (a b c n : Int) (y : Int) : plN a b c n (-y) = plN a b c n y := by unfold plN; rw [plF_neg]
def crR (a b c n : Int) : Int × Int := if chS a b c (inR n 1 10000) = 0 then (cS (plN a b c n) (hiY a b c n).toNat, 0) else (0, chS a b c (inR n 1 10000))
theorem sizeI_any (ao : Option Addr) (n cap : Nat) (w : World) (h : n ≤ 1000000) :
    Calls Tryd.prog 35 #[.slice ao n cap] w fun e w' => e = .returned (.int .i64 n) ∧ w = w' := by
  go_enter Tryd.func35, Tryd.ntmps35
  go_wp2
  go_ret
  exact ⟨rfl, rfl⟩
theorem iCountRepresent_any (a b c n : Int) (w : World) :
    Calls Tryd.prog 12 #[.agg #[.int .i64 a, .int .i64 b, .int .i64 c], .int .i64 n] w fun e w' => e = .returned (.tuple #[.int .i64 (crR a b c n).1, .int .i64 (crR a b c n).2]) ∧ Below w.heap.size w w' := by
  obtain ⟨fits, hfits⟩ : ∃ b, inR n 1 10000 = b := ⟨_, rfl⟩
  have HI := Lib.hid hfits
  by_cases hc : chS a b c fits = 0
  · obtain ⟨hv, hf, hd⟩ := chS_zero hc
    have hn := inR_iff.1 (hfits.trans hf)
    obtain ⟨-, -, -, h4⟩ := hi_facts hv hd hn
    subst hf
    have HV := Lib.hid hv
    have HD := Lib.hid hd
    have HQ : Hid (crR a b c n = (sR (plN a b c n) (-(hiY a b c n)) (2 * hiY a b c n + 1).toNat, 0)) := Lib.hid (by
      unfold crR
      rw [hfits, if_pos hc, ← sR_sym _ (plN_neg a b c n), show ((hiY a b c n).toNat : Int) = hiY a b c n by omega, show 2 * (hiY a b c n).toNat + 1 = (2 * hiY a b c n + 1).toNat by omega])
    have HH := Lib.hid (highestY_any a b c n · hv hd hn)
    clear hv hd hfits
    generalize crR a b c n = Q at *
    generalize hiY a b c n = m at *
    go_enter Tryd.func12, Tryd.ntmps12
    go_wp2_with fail
    have hx0 : heapAt (w.alloc (.cells #[.int .i64 a, .int .i64 b, .int .i64 c] 25)) w.heap.size = some (.cells #[.int .i64 a, .int .i64 b, .int .i64 c] 25 (0, 0)) := (by simp (disch := (first | omega | (simp; done) | (simp; omega))) [*])
    obtain ⟨p0, p1, p2, p3, p4, p5, p6⟩ := blk3 hx0
    go_region_held3 (fun w' => w'.cell? ⟨w.heap.size, 0, none⟩ = some (.int .i64 a) ∧ w'.cell? ⟨w.heap.size, 1, none⟩ = some (.int .i64 b) ∧ w'.cell? ⟨w.heap.size, 2, none⟩ = some (.int .i64 c)) (first | assumption | exact ⟨p1, p2, p3⟩ | (refine ⟨?_, ?_, ?_⟩ <;> ((rw [hc1 _ _ (by first | omega | (simp; done) | (simp; omega))]) <;> first | assumption | exact p1 | exact p2 | exact p3 | (obtain ⟨_, _, _⟩ := ‹World.cell? _ _ = _ ∧ _ ∧ _›; assumption) | (simp [*]; done)))) (first | (go_at_call 29; refine (withinR HI.out _).mono ?_; rintro e w1 ⟨rfl, rfl⟩) | (go_at_call 28; refine (checkShown_any _ _ _ _ _).mono ?_; rintro e w1 ⟨rfl, hb1⟩; obtain ⟨hc1, hf1, hl1, hB1⟩ := bcell hb1; have hz1 := hb1.size; (try simp at hz1); (try have hk0 : w.heap.size < w1.heap.size := by omega); (try have hk1 : w.heap.size + 1 < w1.heap.size := by omega); (try have hk2 : w.heap.size + 1 + 1 < w1.heap.size := by omega)))
    have hbel1 : Below w.heap.size w w1 := (by repeat' (first | (with_reducible exact Below.refl _ _) | (with_reducible assumption) | (with_reducible refine Below.setCell ?_ ?_ _) | (with_reducible refine Below.alloc ?_ ?_ _) | (with_reducible refine Below.drew ?_) | (with_reducible refine below_drewN ?_ _) | (with_reducible refine Below.trans ?_ (Below.mono (by with_reducible assumption) ?_)) | go_size | (simp at *; omega)))
    have hx1 : heapAt w1 w.heap.size = some (.cells #[.int .i64 a, .int .i64 b, .int .i64 c] 25 (0, 0)) := (by simp (disch := (first | omega | (simp; done) | (simp; omega))) [*])
    clear p0 p1 p2 p3 p4 p5 p6 hx0 hb1 hc1 hf1 hl1 hB1
    obtain ⟨p0, p1, p2, p3, p4, p5, p6⟩ := blk3 hx1
    go_wp2_with fail; refine (HH.out _).mono ?_; rintro e w2 ⟨rfl, hb2⟩; obtain ⟨hc2, hf2, -, hB2⟩ := bcell hb2; have hz2 := hb2.size; (try simp at hz2); (try have hk2_0 : w.heap.size < w2.heap.size := by omega); (try have hk2_1 : w.heap.size + 1 < w2.heap.size := by omega); (try have hk2_2 : w.heap.size + 1 + 1 < w2.heap.size := by omega); (try have hk2_3 : w.heap.size + 1 + 1 + 1 < w2.heap.size := by omega); (try have hk2_4 : wr.heap.size < w2.heap.size := by omega); (try have hk2_5 : wr.heap.size + 1 < w2.heap.size := by omega); (try have hk2_6 : w1.heap.size < w2.heap.size := by omega); (try have hk2_7 : w1.heap.size + 1 < w2.heap.size := by omega)
    have hbel2 : Below w.heap.size w w2 := (by repeat' (first | (with_reducible exact Below.refl _ _) | (with_reducible assumption) | (with_reducible refine Below.setCell ?_ ?_ _) | (with_reducible refine Below.alloc ?_ ?_ _) | (with_reducible refine Below.drew ?_) | (with_reducible refine below_drewN ?_ _) | (with_reducible refine Below.trans ?_ (Below.mono (by with_reducible assumption) ?_)) | go_size | (simp at *; omega)))
    have hx2 : heapAt w2 w.heap.size = some (.cells #[.int .i64 a, .int .i64 b, .int .i64 c] 25 (0, 0)) := (hb2.block _ p0).trans hx1
    clear p0 p1 p2 p3 p4 p5 p6 hb2 hc2 hf2 hB2
    go_wp2_with fail
    clear hc
    go_loopg [7, 9] (2 * m + 1).toNat (fun k s u wr => ∃ j : Nat, (j : Int) + k = 2 * m + 1 ∧ u = .int .i64 (-m + j) ∧ s = .int .i64 (sR (plN a b c n) (-m) j) ∧ heapAt wr w.heap.size = some (.cells #[.int .i64 a, .int .i64 b, .int .i64 c] 25 (0, 0)) ∧ Below w.heap.size w wr)
    case atStart => exact ⟨0, by omega, by simp, rfl, hx2, hbel2⟩
    case round =>
      obtain ⟨j, hjk, rfl, rfl, hx, hbel⟩ := hrel
      obtain ⟨p0, p1, p2, p3, p4, p5, p6⟩ := blk3 hx
      have hsz := hbel.size
      have sb := sR_b (plN_b a b c n) (-m) j
      by_cases hlt : (j : Int) < 2 * m + 1
      · have hS : Hid (sR (plN a b c n) (-m) (j + 1) = sR (plN a b c n) (-m) j + plN a b c n (-m + j)) := Lib.hid rfl
        have hP := plF_len a b c n (-m + j)
        have hle : -m + (j : Int) ≤ m := by omega
        go_wp2_with fail
        refine (placesAt_any a b c n (-m + j) _ HV.out HD.out hn (by omega)).mono ?_
        intro e w3 hr
        unfold RetL1 at hr
        obtain ⟨v, rfl, o3, hb3⟩ := hr
        obtain ⟨ao, cap, hv⟩ := o3.len
        subst hv
        clear o3
        have hbel3 : Below w.heap.size w w3 := (by repeat' (first | (with_reducible exact Below.refl _ _) | (with_reducible assumption) | (with_reducible refine Below.setCell ?_ ?_ _) | (with_reducible refine Below.alloc ?_ ?_ _) | (with_reducible refine Below.drew ?_) | (with_reducible refine below_drewN ?_ _) | (with_reducible refine Below.trans ?_ (Below.mono (by with_reducible assumption) ?_)) | go_size | (simp at *; omega)))
        have hx3 : heapAt w3 w.heap.size = some (.cells #[.int .i64 a, .int .i64 b, .int .i64 c] 25 (0, 0)) := (hb3.block _ p0).trans hx
        clear hb3
        have HN : Hid (plN a b c n (-m + j) = ((plF a b c n (-m + j)).length : Int)) := Lib.hid rfl
        generalize (plF a b c n (-m + (j : Int))).length = q at *
        go_wp2_with (go_at_call 35; refine (sizeI_any _ _ _ _ (by omega)).mono ?_; rintro e w1 ⟨rfl, rfl⟩)
        go_roundg (gk - 1)
        case measure => omega
        case rel => exact ⟨j + 1, by omega, by go_num, by rw [hS.out, HN.out], hx3, hbel3⟩
      · have hjl' : ¬ -m + (j : Int) ≤ m := by omega
        have EQ : Hid (j = (2 * m + 1).toNat) := Lib.hid (by omega)
        go_wp2_with fail
        go_ret2
        exact ⟨by rw [HQ.out, ← EQ.out]; rfl, hbel⟩
  · have HF : Hid (crR a b c n = (0, chS a b c fits)) := Lib.hid (by simp [crR, hfits, hc])
    have hcb : (chS a b c fits != 0) = true := by simp [hc]
    clear hc hfits
    go_enter Tryd.func12, Tryd.ntmps12
    go_wp2_with fail
    have hx0 : heapAt (w.alloc (.cells #[.int .i64 a, .int .i64 b, .int .i64 c] 25)) w.heap.size = some (.cells #[.int .i64 a, .int .i64 b, .int .i64 c] 25 (0, 0)) := (by simp (disch := (first | omega | (simp; done) | (simp; omega))) [*])
    obtain ⟨p0, p1, p2, p3, p4, p5, p6⟩ := blk3 hx0
    go_region_held3 (fun w' => w'.cell? ⟨w.heap.size, 0, none⟩ = some (.int .i64 a) ∧ w'.cell? ⟨w.heap.size, 1, none⟩ = some (.int .i64 b) ∧ w'.cell? ⟨w.heap.size, 2, none⟩ = some (.int .i64 c)) (first | assumption | exact ⟨p1, p2, p3⟩ | (refine ⟨?_, ?_, ?_⟩ <;> ((rw [hc1 _ _ (by first | omega | (simp; done) | (simp; omega))]) <;> first | assumption | exact p1 | exact p2 | exact p3 | (obtain ⟨_, _, _⟩ := ‹World.cell? _ _ = _ ∧ _ ∧ _›; assumption) | (simp [*]; done)))) (first | (go_at_call 29; refine (withinR HI.out _).mono ?_; rintro e w1 ⟨rfl, rfl⟩) | (go_at_call 28; refine (checkShown_any _ _ _ _ _).mono ?_; rintro e w1 ⟨rfl, hb1⟩; obtain ⟨hc1, hf1, hl1, hB1⟩ := bcell hb1; have hz1 := hb1.size; (try simp at hz1); (try have hk0 : w.heap.size < w1.heap.size := by omega); (try have hk1 : w.heap.size + 1 < w1.heap.size := by omega); (try have hk2 : w.heap.size + 1 + 1 < w1.heap.size := by omega)))
    have hbel1 : Below w.heap.size w w1 := (by repeat' (first | (with_reducible exact Below.refl _ _) | (with_reducible assumption) | (with_reducible refine Below.setCell ?_ ?_ _) | (with_reducible refine Below.alloc ?_ ?_ _) | (with_reducible refine Below.drew ?_) | (with_reducible refine below_drewN ?_ _) | (with_reducible refine Below.trans ?_ (Below.mono (by with_reducible assumption) ?_)) | go_size | (simp at *; omega)))
    clear p0 p1 p2 p3 p4 p5 p6 hx0 hb1 hc1 hf1 hl1 hB1
    go_wp2_with fail
    go_ret2
    exact ⟨by rw [HF.out]; rfl, hbel1⟩
theorem sCountRepresent_any (a b c n : Int) (w : World) :
    Calls Tryd.prog 13 #[.agg #[.int .i64 a, .int .i64 b, .int .i64 c], .int .i64 n] w fun e w' => e = .returned (.tuple #[.int .i64 (crR a b c n).1, .int .i64 (crR a b c n).2]) ∧ Below w.heap.size w w' := by
  by_cases hc : chS a b c (inR n 1 10000) = 0
  · obtain ⟨hv, hf, hd⟩ := chS_zero hc
    have hn := inR_iff.1 hf
    obtain ⟨-, -, -, h4⟩ := hi_facts hv hd hn
    have HV := Lib.hid hv
    have HD := Lib.hid hd
    have HQ : Hid (crR a b c n = (cS (plN a b c n) (hiY a b c n).toNat, 0)) := Lib.hid (by simp [crR, hc])
    have HH := Lib.hid (l12Most_any a b c n · hv hd hn)
    clear hv hd hf
    generalize crR a b c n = Q at *
    generalize hiY a b c n = m at *
    go_enter Tryd.func13, Tryd.ntmps13
    go_wp2_with fail; refine (l12Code_any _ _ _ _ _).mono ?_; rintro e w1 ⟨rfl, hb1⟩; obtain ⟨hc1, hf1, -, hB1⟩ := bcell hb1; have hz1 := hb1.size; (try simp at hz1); (try have hk1_0 : w.heap.size < w1.heap.size := by omega); (try have hk1_1 : w.heap.size + 1 < w1.heap.size := by omega); (try have hk1_2 : w.heap.size + 1 + 1 < w1.heap.size := by omega); (try have hk1_3 : w.heap.size + 1 + 1 + 1 < w1.heap.size := by omega); (try have hk1_4 : wr.heap.size < w1.heap.size := by omega); (try have hk1_5 : wr.heap.size + 1 < w1.heap.size := by omega)
    go_wp2_with fail
    refine (l12Xs_any a b c n 0 _ HV.out HD.out hn (by omega)).mono ?_
    intro e w2 hr
    unfold RetL1 at hr
    obtain ⟨v, rfl, o2, hb2⟩ := hr
    obtain ⟨ao, cap, hv⟩ := o2.len
    rw [List.length_reverse] at hv
    subst hv
    clear o2
    have hbel2 : Below w.heap.size w w2 := (by repeat' (first | (with_reducible exact Below.refl _ _) | (with_reducible assumption) | (with_reducible refine Below.setCell ?_ ?_ _) | (with_reducible refine Below.alloc ?_ ?_ _) | (with_reducible refine Below.drew ?_) | (with_reducible refine below_drewN ?_ _) | (with_reducible refine Below.trans ?_ (Below.mono (by with_reducible assumption) ?_)) | go_size | (simp at *; omega)))
    have hx2 : heapAt w2 w.heap.size = some (.cells #[.int .i64 a, .int .i64 b, .int .i64 c] 25 (0, 0)) := by
      have h1 : heapAt w1 w.heap.size = some (.cells #[.int .i64 a, .int .i64 b, .int .i64 c] 25 (0, 0)) := (by simp (disch := (first | omega | (simp; done) | (simp; omega))) [*])
      exact (hb2.block _ (blk_lt h1)).trans h1
    clear hb1 hc1 hf1 hB1 hb2 hc
    have h0 : Hid (cS (plN a b c n) 0 = ((plF a b c n 0).length : Int)) := Lib.hid rfl
    have hP0 := plF_len a b c n 0
    generalize (plF a b c n 0).length = q0 at *
    go_wp2_with fail
    go_loopg [7, 8] (m.toNat + 1) (fun k s u wr => ∃ j : Nat, j + k = m.toNat + 1 ∧ u = .int .i64 ((j + 1 : Nat) : Int) ∧ s = .int .i64 (cS (plN a b c n) j) ∧ heapAt wr w.heap.size = some (.cells #[.int .i64 a, .int .i64 b, .int .i64 c] 25 (0, 0)) ∧ Below w.heap.size w wr ∧ j ≤ m.toNat)
    case atStart => exact ⟨0, by omega, rfl, by rw [h0.out], hx2, hbel2, by omega⟩
    case round =>
      obtain ⟨j, hjk, rfl, rfl, hx, hbel, hjm⟩ := hrel
      obtain ⟨p0, p1, p2, p3, p4, p5, p6⟩ := blk3 hx
      have hsz := hbel.size
      have sb := cS_b (plN_b a b c n) j
      by_cases hlt : ((j + 1 : Nat) : Int) ≤ m
      · have hS : Hid (cS (plN a b c n) (j + 1) = cS (plN a b c n) j + 2 * plN a b c n ((j + 1 : Nat) : Int)) := Lib.hid rfl
        have hP := plF_len a b c n ((j + 1 : Nat) : Int)
        have HN : Hid (plN a b c n ((j + 1 : Nat) : Int) = ((plF a b c n ((j + 1 : Nat) : Int)).length : Int)) := Lib.hid rfl
        have HX := Lib.hid (l12Xs_any a b c n ((j + 1 : Nat) : Int) · HV.out HD.out hn (by omega))
        have hj1 : j + 1 ≤ m.toNat := by omega
        have hyb : 0 ≤ ((j + 1 : Nat) : Int) ∧ ((j + 1 : Nat) : Int) ≤ 20000 := by omega
        generalize hy : ((j + 1 : Nat) : Int) = y at *
        have HY := Lib.hid hy
        clear hy
        go_wp2_with fail; refine (HH.out _).mono ?_; rintro e w1 ⟨rfl, hb1⟩; obtain ⟨hc1, hf1, -, hB1⟩ := bcell hb1; have hz1 := hb1.size; (try simp at hz1); (try have hk1_0 : w.heap.size < w1.heap.size := by omega); (try have hk1_1 : w.heap.size + 1 < w1.heap.size := by omega); (try have hk1_2 : w.heap.size + 1 + 1 < w1.heap.size := by omega); (try have hk1_3 : w.heap.size + 1 + 1 + 1 < w1.heap.size := by omega); (try have hk1_4 : wr.heap.size < w1.heap.size := by omega); (try have hk1_5 : wr.heap.size + 1 < w1.heap.size := by omega)
        go_wp2_with fail
        refine (HX.out _).mono ?_
        intro e w3 hr
        unfold RetL1 at hr
        obtain ⟨v, rfl, o3, hb3⟩ := hr
        obtain ⟨ao3, cap3, hv⟩ := o3.len
        rw [List.length_reverse] at hv
        subst hv
        clear o3
        have hbel3 : Below w.heap.size w w3 := (by repeat' (first | (with_reducible exact Below.refl _ _) | (with_reducible assumption) | (with_reducible refine Below.setCell ?_ ?_ _) | (with_reducible refine Below.alloc ?_ ?_ _) | (with_reducible refine Below.drew ?_) | (with_reducible refine below_drewN ?_ _) | (with_reducible refine Below.trans ?_ (Below.mono (by with_reducible assumption) ?_)) | go_size | (simp at *; omega)))
        have hx1 : heapAt w1 w.heap.size = some (.cells #[.int .i64 a, .int .i64 b, .int .i64 c] 25 (0, 0)) := (hb1.block _ p0).trans hx
        have hx3 : heapAt w3 w.heap.size = some (.cells #[.int .i64 a, .int .i64 b, .int .i64 c] 25 (0, 0)) := (hb3.block _ (blk_lt hx1)).trans hx1
        clear hb1 hc1 hf1 hB1 hb3
        generalize (plF a b c n y).length = q at *
        go_wp2_with fail
        go_roundg (gk - 1)
        case measure => omega
        case rel => exact ⟨j + 1, by omega, by rw [← HY.out]; go_num, by rw [hS.out, HN.out], hx3, hbel3, by have := HY.out; omega⟩
      · have EQ : Hid (j = m.toNat) := Lib.hid (by omega)
        go_wp2_with fail; refine (HH.out _).mono ?_; rintro e w1 ⟨rfl, hb1⟩; obtain ⟨hc1, hf1, -, hB1⟩ := bcell hb1; have hz1 := hb1.size; (try simp at hz1); (try have hk1_0 : w.heap.size < w1.heap.size := by omega); (try have hk1_1 : w.heap.size + 1 < w1.heap.size := by omega); (try have hk1_2 : w.heap.size + 1 + 1 < w1.heap.size := by omega); (try have hk1_3 : w.heap.size + 1 + 1 + 1 < w1.heap.size := by omega); (try have hk1_4 : wr.heap.size < w1.heap.size := by omega); (try have hk1_5 : wr.heap.size + 1 < w1.heap.size := by omega)
        go_wp2_with fail
        go_ret2
        exact ⟨by rw [HQ.out, ← EQ.out]; rfl, (by repeat' (first | (with_reducible exact Below.refl _ _) | (with_reducible assumption) | (with_reducible refine Below.setCell ?_ ?_ _) | (with_reducible refine Below.alloc ?_ ?_ _) | (with_reducible refine Below.drew ?_) | (with_reducible refine below_drewN ?_ _) | (with_reducible refine Below.trans ?_ (Below.mono (by with_reducible assumption) ?_)) | go_size | (simp at *; omega)))⟩
  · have HF : Hid (crR a b c n = (0, chS a b c (inR n 1 10000))) := Lib.hid (by simp [crR, hc])
    have hcb : (chS a b c (inR n 1 10000) != 0) = true := by simp [hc]
    clear hc
    go_enter Tryd.func13, Tryd.ntmps13
    go_wp2_with fail; refine (l12Code_any _ _ _ _ _).mono ?_; rintro e w1 ⟨rfl, hb1⟩; obtain ⟨hc1, hf1, -, hB1⟩ := bcell hb1; have hz1 := hb1.size; (try simp at hz1); (try have hk1_0 : w.heap.size < w1.heap.size := by omega); (try have hk1_1 : w.heap.size + 1 < w1.heap.size := by omega); (try have hk1_2 : w.heap.size + 1 + 1 < w1.heap.size := by omega); (try have hk1_3 : w.heap.size + 1 + 1 + 1 < w1.heap.size := by omega); (try have hk1_4 : wr.heap.size < w1.heap.size := by omega); (try have hk1_5 : wr.heap.size + 1 < w1.heap.size := by omega)
    go_wp2_with fail
    go_ret2
    exact ⟨by rw [HF.out]; rfl, (by repeat' (first | (with_reducible exact Below.refl _ _) | (with_reducible assumption) | (with_reducible refine Below.setCell ?_ ?_ _) | (with_reducible refine Below.alloc ?_ ?_ _) | (with_reducible refine Below.drew ?_) | (with_reducible refine below_drewN ?_ _) | (with_reducible refine Below.trans ?_ (Below.mono (by with_reducible assumption) ?_)) | go_size | (simp at *; omega)))⟩
end Go.Proofs.YtodbmnbahldabaaDoor
