/- Numbers that a definite form shows: the places at one Y: the reference. -/
import Derived.Test.YtodbmnbahldabaaDoorRepB
namespace Go.Proofs.YtodbmnbahldabaaDoor
open Go.ChangeShapes Go.WideShapes Go.ChangeAt Go.RowKit
set_option linter.unusedVariables false
set_option maxHeartbeats 1000000
theorem l12Root_any (a b c n y : Int) (w : World) (hv : vF a b c = true) (hd : dF a b c < 0) (hn : 1 ≤ n ∧ n ≤ 10000) (hy : -20000 ≤ y ∧ y ≤ 20000) :
    Calls Tryd.prog 56 #[.agg #[.int .i64 a, .int .i64 b, .int .i64 c], .int .i64 n, .int .i64 y] w fun e w' => e = .returned (.tuple #[.int .i64 (rt (zS' a b c n y)), .bool (sqB (zS' a b c n y))]) ∧ Below w.heap.size w w' := by
  obtain ⟨a1, b1, c1⟩ := vF_in hv
  obtain ⟨ha, h2, -, -⟩ := hi_facts hv hd hn
  obtain ⟨z1, z2, z3, z4⟩ := zS_facts hv hd hn hy
  have d1 := dF_range a1 b1 c1
  have e0 : dF a b c * y * y + 4 * a * n = zS' a b c n y := rfl
  generalize zS' a b c n y = z at *
  have v1 : IntKind.i64.wrap (dF a b c * y) = dF a b c * y := IntWalk.i64_in _ (by omega)
  have v2 : IntKind.i64.wrap (dF a b c * y * y) = dF a b c * y * y := IntWalk.i64_in _ (by omega)
  have v3 : IntKind.i64.wrap (4 * a) = 4 * a := IntWalk.i64_in _ (by omega)
  have v4 : IntKind.i64.wrap (4 * a * n) = 4 * a * n := IntWalk.i64_in _ (by omega)
  have v5 : IntKind.i64.wrap z = z := IntWalk.i64_in _ (by omega)
  clear hv
  go_enter Tryd.func56, Tryd.ntmps56
  go_wp2_with fail
  have hx0 : heapAt (w.alloc (.cells #[.int .i64 a, .int .i64 b, .int .i64 c] 25)) w.heap.size = some (.cells #[.int .i64 a, .int .i64 b, .int .i64 c] 25 (0, 0)) := (by simp (disch := (first | omega | (simp; done) | (simp; omega))) [*])
  obtain ⟨p0, p1, p2, p3, p4, p5, p6⟩ := blk3 hx0
  go_region_held3 (fun w' => w'.cell? ⟨w.heap.size, 0, none⟩ = some (.int .i64 a) ∧ w'.cell? ⟨w.heap.size, 1, none⟩ = some (.int .i64 b) ∧ w'.cell? ⟨w.heap.size, 2, none⟩ = some (.int .i64 c)) (first | assumption | exact ⟨p1, p2, p3⟩ | (refine ⟨?_, ?_, ?_⟩ <;> ((rw [hc1 _ _ (by first | omega | (simp; done) | (simp; omega))]) <;> first | assumption | exact p1 | exact p2 | exact p3 | (obtain ⟨_, _, _⟩ := ‹World.cell? _ _ = _ ∧ _ ∧ _›; assumption) | (simp [*]; done)))) (first | (go_at_call 54; refine (l11Disc_any _ _ _ _ (by assumption) (by assumption) (by assumption)).mono ?_; rintro e w1 ⟨rfl, hb1⟩; obtain ⟨hc1, hf1, hl1, hB1⟩ := bcell hb1; have hz1 := hb1.size; (try simp at hz1); (try have hk0 : w.heap.size < w1.heap.size := by omega); (try have hk1 : w.heap.size + 1 < w1.heap.size := by omega); (try have hk2 : w.heap.size + 1 + 1 < w1.heap.size := by omega)))
  have hbel1 : Below w.heap.size w w1 := (by repeat' (first | (with_reducible exact Below.refl _ _) | (with_reducible assumption) | (with_reducible refine Below.setCell ?_ ?_ _) | (with_reducible refine Below.alloc ?_ ?_ _) | (with_reducible refine Below.drew ?_) | (with_reducible refine below_drewN ?_ _) | (with_reducible refine Below.trans ?_ (Below.mono (by with_reducible assumption) ?_)) | go_size | (simp at *; omega)))
  clear v1 v2 v3 v4 v5 e0 hb1 hc1 hf1 hl1 hB1
  rcases Int.lt_or_le z 0 with h | h
  · have h1 : rt z = 0 := rt_neg (by omega)
    have h2 : sqB z = false := by unfold sqB; rw [decide_eq_false (by omega)]; rfl
    have H1 := Lib.hid h1
    have H2 := Lib.hid h2
    clear h1 h2
    go_wp2_with fail
    go_ret2
    exact ⟨by rw [H1.out, H2.out]; rfl, hbel1⟩
  · have s0 := (rt_spec h (by omega)).1
    have s1 : rt z ≤ 20000 := rt_le h (by omega) (by omega) (by omega)
    have s2 := mul_f (a := rt z) (b := rt z) (A := 20000) (B := 20000) (by omega) (by omega)
    have HS : Hid (sqB z = (rt z * rt z == z)) := Lib.hid (by unfold sqB; rw [decide_eq_true h]; rfl)
    have hn0 : ¬ z < 0 := by omega
    go_wp2_with (go_at_call 55; refine (l07Root_any _ _ (by omega)).mono ?_; rintro e w1 ⟨rfl, rfl⟩)
    go_ret2
    exact ⟨by rw [HS.out]; rfl, hbel1⟩
theorem plT_rev (a t : Int) : (plT a t).reverse = plT a t := by unfold plT; split <;> rfl
theorem l12Xs_any (a b c n y : Int) (w : World) (hv : vF a b c = true) (hd : dF a b c < 0) (hn : 1 ≤ n ∧ n ≤ 10000) (hy : -20000 ≤ y ∧ y ≤ 20000) :
    Calls Tryd.prog 33 #[.agg #[.int .i64 a, .int .i64 b, .int .i64 c], .int .i64 n, .int .i64 y] w (RetL1 2 1 gI1 w (plF a b c n y).reverse) := by
  obtain ⟨a1, b1, c1⟩ := vF_in hv
  obtain ⟨ha, h2, -, -⟩ := hi_facts hv hd hn
  obtain ⟨z1, z2, z3, z4⟩ := zS_facts hv hd hn hy
  have hq : b * y = -(-b * y) := by rw [Int.neg_mul, Int.neg_neg]
  have HP : Hid (plF a b c n y = if sqB (zS' a b c n y) = true then plT a (-b * y + rt (zS' a b c n y)) ++ (if 0 < rt (zS' a b c n y) then plT a (-b * y - rt (zS' a b c n y)) else []) else []) := Lib.hid rfl
  have HX := Lib.hid (l12Root_any a b c n y · hv hd hn hy)
  generalize plF a b c n y = R at *
  generalize zS' a b c n y = z at *
  obtain ⟨Q, hQ⟩ : ∃ Q, -b * y = Q := ⟨_, rfl⟩
  rw [hQ] at z4 hq HP
  obtain ⟨s, hsq⟩ : ∃ s, rt z = s := ⟨_, rfl⟩
  have hs01 : 0 ≤ s ∧ s ≤ 20000 := by
    rcases Int.lt_or_le z 0 with h | h
    · rw [← hsq, rt_neg (by omega)]; omega
    · rw [← hsq]; exact ⟨(rt_spec h (by omega)).1, rt_le h (by omega) (by omega) (by omega)⟩
  rw [hsq] at HP HX
  obtain ⟨T1, hT1⟩ : ∃ T1, Q + s = T1 := ⟨_, rfl⟩
  obtain ⟨T2, hT2⟩ : ∃ T2, Q - s = T2 := ⟨_, rfl⟩
  rw [hT1, hT2] at HP
  have t1 : -200020000 ≤ T1 ∧ T1 ≤ 200020000 := by omega
  have t2 : -200020000 ≤ T2 ∧ T2 ≤ 200020000 := by omega
  have HT : Hid (T1 = T2 ↔ ¬ 0 < s) := Lib.hid (by omega)
  obtain ⟨q1, hq1⟩ : ∃ q1, T1.tdiv (2 * a) = q1 := ⟨_, rfl⟩
  obtain ⟨q2, hq2⟩ : ∃ q2, T2.tdiv (2 * a) = q2 := ⟨_, rfl⟩
  have b1' := tdiv_le T1 (2 * a)
  have b2' := tdiv_le T2 (2 * a)
  rw [hq1] at b1'
  rw [hq2] at b2'
  have b3 : ab T1 ≤ 200020000 ∧ ab T2 ≤ 200020000 := by unfold ab; omega
  have hn2 : ¬ 2 * a = 0 := by omega
  obtain ⟨i0', hi, hz0', hz1, hz2⟩ := info_parts infoI
  have HI := Lib.hid (And.intro hi (And.intro hz0' (And.intro hz1 hz2)))
  clear hi hz0' hz1 hz2 hv
  cases hs : sqB z
  · have HE : Hid (R = []) := Lib.hid (by rw [HP.out, hs]; rfl)
    go_enter Tryd.func33, Tryd.ntmps33
    go_wp2_with fail
    refine (HX.out _).mono ?_
    rintro e w1 ⟨rfl, hb1⟩
    have HO := Lib.hid (Own.below (Own.empty (w.alloc (.cells #[.int .i64 a, .int .i64 b, .int .i64 c] 25)) w.heap.size 2 1 gI1 (by simp)) hb1)
    have hbel : Below w.heap.size w w1 := (by repeat' (first | (with_reducible exact Below.refl _ _) | (with_reducible assumption) | (with_reducible refine Below.setCell ?_ ?_ _) | (with_reducible refine Below.alloc ?_ ?_ _) | (with_reducible refine Below.drew ?_) | (with_reducible refine below_drewN ?_ _) | (with_reducible refine Below.trans ?_ (Below.mono (by with_reducible assumption) ?_)) | go_size | (simp at *; omega)))
    go_wp2_with fail
    go_ret
    unfold RetL1
    rw [HE.out]
    refine ⟨_, rfl, ?_, hbel⟩
    have h := HO.out
    simp only [World.size_alloc] at h
    exact h
  · cases hm2 : (T2.tmod (2 * a) == 0)
    · by_cases hs0 : 0 < s
      · cases hm1 : (T1.tmod (2 * a) == 0)
        · have M2 := Lib.hid hm2
          have hne : (T1 != T2) = true := by simp; exact fun h => (HT.out.1 h) hs0
          have HR : Hid (R.reverse = []) := Lib.hid (by rw [HP.out, if_pos hs, if_pos hs0, plT_no hm1, plT_no hm2]; rfl)
          clear hsq hs0
          go_enter Tryd.func33, Tryd.ntmps33
          go_wp2_with fail
          refine (HX.out _).mono ?_
          rintro e w1 ⟨rfl, hb1⟩
          have HO' := Own.below (Own.empty (w.alloc (.cells #[.int .i64 a, .int .i64 b, .int .i64 c] 25)) (w.heap.size + 1) 2 1 gI1 (by simp)) hb1
          simp only [World.size_alloc] at HO'
          have HO := Lib.hid HO'
          clear HO'
          have hbel : Below w.heap.size w w1 := (by repeat' (first | (with_reducible exact Below.refl _ _) | (with_reducible assumption) | (with_reducible refine Below.setCell ?_ ?_ _) | (with_reducible refine Below.alloc ?_ ?_ _) | (with_reducible refine Below.drew ?_) | (with_reducible refine below_drewN ?_ _) | (with_reducible refine Below.trans ?_ (Below.mono (by with_reducible assumption) ?_)) | go_size | (simp at *; omega)))
          have hx1 : heapAt w1 w.heap.size = some (.cells #[.int .i64 a, .int .i64 b, .int .i64 c] 25 (0, 0)) := by
            have := hb1.block w.heap.size (by simp; omega)
            exact this.trans (by show heapAt _ _ = _; simp)
          clear hb1
          have hsz1 := hbel.size
          obtain ⟨p0, p1, p2, p3, p4, p5, p6⟩ := blk3 hx1
          obtain ⟨hi, hz0', hz1, hz2⟩ := HI.out
          go_wp2
          go_ret
          unfold RetL1
          rw [HR.out]
          exact ⟨_, rfl, HO.out.mono (by omega), hbel⟩
        · have M2 := Lib.hid hm2
          have hne : (T1 != T2) = true := by simp; exact fun h => (HT.out.1 h) hs0
          have HR : Hid (R.reverse = [q1]) := Lib.hid (by rw [HP.out, if_pos hs, if_pos hs0, plT_yes hm1, plT_no hm2]; simp [hq1])
          clear hsq hs0
          go_enter Tryd.func33, Tryd.ntmps33
          go_wp2_with fail
          refine (HX.out _).mono ?_
          rintro e w1 ⟨rfl, hb1⟩
          have HO' := Own.below (Own.empty (w.alloc (.cells #[.int .i64 a, .int .i64 b, .int .i64 c] 25)) (w.heap.size + 1) 2 1 gI1 (by simp)) hb1
          simp only [World.size_alloc] at HO'
          have HO := Lib.hid HO'
          clear HO'
          have hbel : Below w.heap.size w w1 := (by repeat' (first | (with_reducible exact Below.refl _ _) | (with_reducible assumption) | (with_reducible refine Below.setCell ?_ ?_ _) | (with_reducible refine Below.alloc ?_ ?_ _) | (with_reducible refine Below.drew ?_) | (with_reducible refine below_drewN ?_ _) | (with_reducible refine Below.trans ?_ (Below.mono (by with_reducible assumption) ?_)) | go_size | (simp at *; omega)))
          have hx1 : heapAt w1 w.heap.size = some (.cells #[.int .i64 a, .int .i64 b, .int .i64 c] 25 (0, 0)) := by
            have := hb1.block w.heap.size (by simp; omega)
            exact this.trans (by show heapAt _ _ = _; simp)
          clear hb1
          have hsz1 := hbel.size
          obtain ⟨p0, p1, p2, p3, p4, p5, p6⟩ := blk3 hx1
          obtain ⟨hi, hz0', hz1, hz2⟩ := HI.out
          go_wp2_with (at_builtin; refine wpList_append_own _ rfl _ _ 36 rfl (w.heap.size + 1) 2 i0' (.int .i64 0) 1 8 Tryd.underlying36 hi hz0' hz1 hz2 rfl (by decide) _ _ _ rfl (World.ownsRow.alloc HO.out _) ⟨w1.heap.size, 0, none⟩ 1 1 [.int .i64 q1] rfl rfl ?d1 ?d2 ?d3 ?d4 ?d5 ?_)
          case d1 => exact newcs _ _ _ _ rfl
          case d2 => exact one_cell _
          case d3 => unfold maxLen; (try simp); (try omega)
          case d4 => (try simp); (try omega)
          case d5 => simp; omega
          intro vw4 w4 hown' hgrow hnn
          have Nw4 : OwnI w4 (w.heap.size + 1) vw4 ([] ++ [q1]) := appI (L := []) (f := q1) hown'
          have Hw4 := Lib.hid Nw4
          have Xw4 : heapAt w4 w.heap.size = some (.cells #[.int .i64 a, .int .i64 b, .int .i64 c] 25 (0, 0)) := by rw [grown_atL hgrow (neL HO.out (.inl (by omega))) (by simp; omega), heapAt_old (by omega)]; exact hx1
          have Bw4 : Below w.heap.size w w4 := Below.grown (Below.alloc hbel (by omega) _) hgrow (by simp; omega) (fun k hk => by have := (HO.out.lt k hk).1; omega)
          have Sw4 := Bw4.size
          clear hown' hgrow hnn Nw4
          go_wp2
          go_ret
          unfold RetL1
          rw [HR.out]
          exact ⟨_, rfl, Hw4.out.mono (by omega), Bw4⟩
      · have M2 := Lib.hid hm2
        have e12 := HT.out.2 hs0
        have hne : (T1 != T2) = false := by simp [e12]
        have HR : Hid (R.reverse = []) := Lib.hid (by rw [HP.out, if_pos hs, if_neg hs0, e12, plT_no hm2]; simp)
        clear e12
        clear hsq hs0
        go_enter Tryd.func33, Tryd.ntmps33
        go_wp2_with fail
        refine (HX.out _).mono ?_
        rintro e w1 ⟨rfl, hb1⟩
        have HO' := Own.below (Own.empty (w.alloc (.cells #[.int .i64 a, .int .i64 b, .int .i64 c] 25)) (w.heap.size + 1) 2 1 gI1 (by simp)) hb1
        simp only [World.size_alloc] at HO'
        have HO := Lib.hid HO'
        clear HO'
        have hbel : Below w.heap.size w w1 := (by repeat' (first | (with_reducible exact Below.refl _ _) | (with_reducible assumption) | (with_reducible refine Below.setCell ?_ ?_ _) | (with_reducible refine Below.alloc ?_ ?_ _) | (with_reducible refine Below.drew ?_) | (with_reducible refine below_drewN ?_ _) | (with_reducible refine Below.trans ?_ (Below.mono (by with_reducible assumption) ?_)) | go_size | (simp at *; omega)))
        have hx1 : heapAt w1 w.heap.size = some (.cells #[.int .i64 a, .int .i64 b, .int .i64 c] 25 (0, 0)) := by
          have := hb1.block w.heap.size (by simp; omega)
          exact this.trans (by show heapAt _ _ = _; simp)
        clear hb1
        have hsz1 := hbel.size
        obtain ⟨p0, p1, p2, p3, p4, p5, p6⟩ := blk3 hx1
        obtain ⟨hi, hz0', hz1, hz2⟩ := HI.out
        go_wp2
        go_ret
        unfold RetL1
        rw [HR.out]
        exact ⟨_, rfl, HO.out.mono (by omega), hbel⟩
    · by_cases hs0 : 0 < s
      · cases hm1 : (T1.tmod (2 * a) == 0)
        · have M2 := Lib.hid hm2
          have hne : (T1 != T2) = true := by simp; exact fun h => (HT.out.1 h) hs0
          have HR : Hid (R.reverse = [q2]) := Lib.hid (by rw [HP.out, if_pos hs, if_pos hs0, plT_no hm1, plT_yes hm2]; simp [hq2])
          clear hsq hs0
          go_enter Tryd.func33, Tryd.ntmps33
          go_wp2_with fail
          refine (HX.out _).mono ?_
          rintro e w1 ⟨rfl, hb1⟩
          have HO' := Own.below (Own.empty (w.alloc (.cells #[.int .i64 a, .int .i64 b, .int .i64 c] 25)) (w.heap.size + 1) 2 1 gI1 (by simp)) hb1
          simp only [World.size_alloc] at HO'
          have HO := Lib.hid HO'
          clear HO'
          have hbel : Below w.heap.size w w1 := (by repeat' (first | (with_reducible exact Below.refl _ _) | (with_reducible assumption) | (with_reducible refine Below.setCell ?_ ?_ _) | (with_reducible refine Below.alloc ?_ ?_ _) | (with_reducible refine Below.drew ?_) | (with_reducible refine below_drewN ?_ _) | (with_reducible refine Below.trans ?_ (Below.mono (by with_reducible assumption) ?_)) | go_size | (simp at *; omega)))
          have hx1 : heapAt w1 w.heap.size = some (.cells #[.int .i64 a, .int .i64 b, .int .i64 c] 25 (0, 0)) := by
            have := hb1.block w.heap.size (by simp; omega)
            exact this.trans (by show heapAt _ _ = _; simp)
          clear hb1
          have hsz1 := hbel.size
          obtain ⟨p0, p1, p2, p3, p4, p5, p6⟩ := blk3 hx1
          obtain ⟨hi, hz0', hz1, hz2⟩ := HI.out
          go_wp2_with (at_builtin; refine wpList_append_own _ rfl _ _ 36 rfl (w.heap.size + 1) 2 i0' (.int .i64 0) 1 8 Tryd.underlying36 hi hz0' hz1 hz2 rfl (by decide) _ _ _ rfl (World.ownsRow.alloc HO.out _) ⟨w1.heap.size, 0, none⟩ 1 1 [.int .i64 q2] rfl rfl ?c1 ?c2 ?c3 ?c4 ?c5 ?_)
          case c1 => exact newcs _ _ _ _ rfl
          case c2 => exact one_cell _
          case c3 => unfold maxLen; (try simp); (try omega)
          case c4 => (try simp); (try omega)
          case c5 => simp; omega
          intro vw3 w3 hown' hgrow hnn
          have Nw3 : OwnI w3 (w.heap.size + 1) vw3 ([] ++ [q2]) := appI (L := []) (f := q2) hown'
          have Hw3 := Lib.hid Nw3
          have Xw3 : heapAt w3 w.heap.size = some (.cells #[.int .i64 a, .int .i64 b, .int .i64 c] 25 (0, 0)) := by rw [grown_atL hgrow (neL HO.out (.inl (by omega))) (by simp; omega), heapAt_old (by omega)]; exact hx1
          have Bw3 : Below w.heap.size w w3 := Below.grown (Below.alloc hbel (by omega) _) hgrow (by simp; omega) (fun k hk => by have := (HO.out.lt k hk).1; omega)
          have Sw3 := Bw3.size
          clear hown' hgrow hnn Nw3
          obtain ⟨r0, r1, r2, r3, r4, r5, r6⟩ := blk3 Xw3
          go_wp2
          go_ret
          unfold RetL1
          rw [HR.out]
          exact ⟨_, rfl, Hw3.out.mono (by omega), Bw3⟩
        · have M2 := Lib.hid hm2
          have hne : (T1 != T2) = true := by simp; exact fun h => (HT.out.1 h) hs0
          have HR : Hid (R.reverse = [q2, q1]) := Lib.hid (by rw [HP.out, if_pos hs, if_pos hs0, plT_yes hm1, plT_yes hm2]; simp [hq1, hq2])
          clear hsq hs0
          go_enter Tryd.func33, Tryd.ntmps33
          go_wp2_with fail
          refine (HX.out _).mono ?_
          rintro e w1 ⟨rfl, hb1⟩
          have HO' := Own.below (Own.empty (w.alloc (.cells #[.int .i64 a, .int .i64 b, .int .i64 c] 25)) (w.heap.size + 1) 2 1 gI1 (by simp)) hb1
          simp only [World.size_alloc] at HO'
          have HO := Lib.hid HO'
          clear HO'
          have hbel : Below w.heap.size w w1 := (by repeat' (first | (with_reducible exact Below.refl _ _) | (with_reducible assumption) | (with_reducible refine Below.setCell ?_ ?_ _) | (with_reducible refine Below.alloc ?_ ?_ _) | (with_reducible refine Below.drew ?_) | (with_reducible refine below_drewN ?_ _) | (with_reducible refine Below.trans ?_ (Below.mono (by with_reducible assumption) ?_)) | go_size | (simp at *; omega)))
          have hx1 : heapAt w1 w.heap.size = some (.cells #[.int .i64 a, .int .i64 b, .int .i64 c] 25 (0, 0)) := by
            have := hb1.block w.heap.size (by simp; omega)
            exact this.trans (by show heapAt _ _ = _; simp)
          clear hb1
          have hsz1 := hbel.size
          obtain ⟨p0, p1, p2, p3, p4, p5, p6⟩ := blk3 hx1
          obtain ⟨hi, hz0', hz1, hz2⟩ := HI.out
          go_wp2_with (at_builtin; refine wpList_append_own _ rfl _ _ 36 rfl (w.heap.size + 1) 2 i0' (.int .i64 0) 1 8 Tryd.underlying36 hi hz0' hz1 hz2 rfl (by decide) _ _ _ rfl (World.ownsRow.alloc HO.out _) ⟨w1.heap.size, 0, none⟩ 1 1 [.int .i64 q2] rfl rfl ?c1 ?c2 ?c3 ?c4 ?c5 ?_)
          case c1 => exact newcs _ _ _ _ rfl
          case c2 => exact one_cell _
          case c3 => unfold maxLen; (try simp); (try omega)
          case c4 => (try simp); (try omega)
          case c5 => simp; omega
          intro vw3 w3 hown' hgrow hnn
          have Nw3 : OwnI w3 (w.heap.size + 1) vw3 ([] ++ [q2]) := appI (L := []) (f := q2) hown'
          have Hw3 := Lib.hid Nw3
          have Xw3 : heapAt w3 w.heap.size = some (.cells #[.int .i64 a, .int .i64 b, .int .i64 c] 25 (0, 0)) := by rw [grown_atL hgrow (neL HO.out (.inl (by omega))) (by simp; omega), heapAt_old (by omega)]; exact hx1
          have Bw3 : Below w.heap.size w w3 := Below.grown (Below.alloc hbel (by omega) _) hgrow (by simp; omega) (fun k hk => by have := (HO.out.lt k hk).1; omega)
          have Sw3 := Bw3.size
          clear hown' hgrow hnn Nw3
          obtain ⟨r0, r1, r2, r3, r4, r5, r6⟩ := blk3 Xw3
          go_wp2_with (at_builtin; refine wpList_append_own _ rfl _ _ 36 rfl (w.heap.size + 1) 2 i0' (.int .i64 0) 1 8 Tryd.underlying36 hi hz0' hz1 hz2 rfl (by decide) _ _ _ rfl (World.ownsRow.alloc Hw3.out _) ⟨w3.heap.size, 0, none⟩ 1 1 [.int .i64 q1] rfl rfl ?d1 ?d2 ?d3 ?d4 ?d5 ?_)
          case d1 => exact newcs _ _ _ _ rfl
          case d2 => exact one_cell _
          case d3 => unfold maxLen; (try simp); (try omega)
          case d4 => (try simp); (try omega)
          case d5 => simp; omega
          intro vw4 w4 hown' hgrow hnn
          have Nw4 : OwnI w4 (w.heap.size + 1) vw4 (([] ++ [q2]) ++ [q1]) := appI (L := ([] ++ [q2])) (f := q1) hown'
          have Hw4 := Lib.hid Nw4
          have Xw4 : heapAt w4 w.heap.size = some (.cells #[.int .i64 a, .int .i64 b, .int .i64 c] 25 (0, 0)) := by rw [grown_atL hgrow (neL Hw3.out (.inl (by omega))) (by simp; omega), heapAt_old (by omega)]; exact Xw3
          have Bw4 : Below w.heap.size w w4 := Below.grown (Below.alloc Bw3 (by omega) _) hgrow (by simp; omega) (fun k hk => by have := (Hw3.out.lt k hk).1; omega)
          have Sw4 := Bw4.size
          clear hown' hgrow hnn Nw4
          go_wp2
          go_ret
          unfold RetL1
          rw [HR.out]
          exact ⟨_, rfl, Hw4.out.mono (by omega), Bw4⟩
      · have M2 := Lib.hid hm2
        have e12 := HT.out.2 hs0
        have hne : (T1 != T2) = false := by simp [e12]
        have HR : Hid (R.reverse = [q2]) := Lib.hid (by rw [HP.out, if_pos hs, if_neg hs0, e12, plT_yes hm2]; simp [hq2])
        clear e12
        clear hsq hs0
        go_enter Tryd.func33, Tryd.ntmps33
        go_wp2_with fail
        refine (HX.out _).mono ?_
        rintro e w1 ⟨rfl, hb1⟩
        have HO' := Own.below (Own.empty (w.alloc (.cells #[.int .i64 a, .int .i64 b, .int .i64 c] 25)) (w.heap.size + 1) 2 1 gI1 (by simp)) hb1
        simp only [World.size_alloc] at HO'
        have HO := Lib.hid HO'
        clear HO'
        have hbel : Below w.heap.size w w1 := (by repeat' (first | (with_reducible exact Below.refl _ _) | (with_reducible assumption) | (with_reducible refine Below.setCell ?_ ?_ _) | (with_reducible refine Below.alloc ?_ ?_ _) | (with_reducible refine Below.drew ?_) | (with_reducible refine below_drewN ?_ _) | (with_reducible refine Below.trans ?_ (Below.mono (by with_reducible assumption) ?_)) | go_size | (simp at *; omega)))
        have hx1 : heapAt w1 w.heap.size = some (.cells #[.int .i64 a, .int .i64 b, .int .i64 c] 25 (0, 0)) := by
          have := hb1.block w.heap.size (by simp; omega)
          exact this.trans (by show heapAt _ _ = _; simp)
        clear hb1
        have hsz1 := hbel.size
        obtain ⟨p0, p1, p2, p3, p4, p5, p6⟩ := blk3 hx1
        obtain ⟨hi, hz0', hz1, hz2⟩ := HI.out
        go_wp2_with (at_builtin; refine wpList_append_own _ rfl _ _ 36 rfl (w.heap.size + 1) 2 i0' (.int .i64 0) 1 8 Tryd.underlying36 hi hz0' hz1 hz2 rfl (by decide) _ _ _ rfl (World.ownsRow.alloc HO.out _) ⟨w1.heap.size, 0, none⟩ 1 1 [.int .i64 q2] rfl rfl ?c1 ?c2 ?c3 ?c4 ?c5 ?_)
        case c1 => exact newcs _ _ _ _ rfl
        case c2 => exact one_cell _
        case c3 => unfold maxLen; (try simp); (try omega)
        case c4 => (try simp); (try omega)
        case c5 => simp; omega
        intro vw3 w3 hown' hgrow hnn
        have Nw3 : OwnI w3 (w.heap.size + 1) vw3 ([] ++ [q2]) := appI (L := []) (f := q2) hown'
        have Hw3 := Lib.hid Nw3
        have Xw3 : heapAt w3 w.heap.size = some (.cells #[.int .i64 a, .int .i64 b, .int .i64 c] 25 (0, 0)) := by rw [grown_atL hgrow (neL HO.out (.inl (by omega))) (by simp; omega), heapAt_old (by omega)]; exact hx1
        have Bw3 : Below w.heap.size w w3 := Below.grown (Below.alloc hbel (by omega) _) hgrow (by simp; omega) (fun k hk => by have := (HO.out.lt k hk).1; omega)
        have Sw3 := Bw3.size
        clear hown' hgrow hnn Nw3
        obtain ⟨r0, r1, r2, r3, r4, r5, r6⟩ := blk3 Xw3
        go_wp2
        go_ret
        unfold RetL1
        rw [HR.out]
        exact ⟨_, rfl, Hw3.out.mono (by omega), Bw3⟩
end Go.Proofs.YtodbmnbahldabaaDoor
