/- Numbers that a definite form shows: the places at one Y: the program. -/
import Derived.Test.YtodbmnbahldabaaDoorRepA
namespace Go.Proofs.YtodbmnbahldabaaDoor
open Go.ChangeShapes Go.WideShapes Go.ChangeAt Go.RowKit
set_option linter.unusedVariables false
set_option maxHeartbeats 1000000
theorem plT_yes {a t : Int} (h : (t.tmod (2 * a) == 0) = true) : plT a t = [t.tdiv (2 * a)] := by unfold plT; rw [if_pos h]
theorem plT_no {a t : Int} (h : (t.tmod (2 * a) == 0) = false) : plT a t = [] := by unfold plT; rw [h, if_neg (by simp)]
theorem placesAt_any (a b c n y : Int) (w : World) (hv : vF a b c = true) (hd : dF a b c < 0) (hn : 1 ≤ n ∧ n ≤ 10000) (hy : -20000 ≤ y ∧ y ≤ 20000) :
    Calls Tryd.prog 36 #[.agg #[.int .i64 a, .int .i64 b, .int .i64 c], .int .i64 n, .int .i64 y] w (RetL1 2 1 gI1 w (plF a b c n y)) := by
  obtain ⟨a1, b1, c1⟩ := vF_in hv
  obtain ⟨ha, h2, -, -⟩ := hi_facts hv hd hn
  obtain ⟨z1, z2, z3, z4⟩ := zS_facts hv hd hn hy
  have d1 := dF_range a1 b1 c1
  have e0 : dF a b c * y * y + 4 * a * n = zS' a b c n y := rfl
  have hq : b * y = -(-b * y) := by rw [Int.neg_mul, Int.neg_neg]
  have HP : Hid (plF a b c n y = if sqB (zS' a b c n y) = true then plT a (-b * y + rt (zS' a b c n y)) ++ (if 0 < rt (zS' a b c n y) then plT a (-b * y - rt (zS' a b c n y)) else []) else []) := Lib.hid rfl
  generalize plF a b c n y = R at *
  generalize zS' a b c n y = z at *
  obtain ⟨Q, hQ⟩ : ∃ Q, -b * y = Q := ⟨_, rfl⟩
  rw [hQ] at z4 hq HP
  have v1 : IntKind.i64.wrap (dF a b c * y) = dF a b c * y := IntWalk.i64_in _ (by omega)
  have v2 : IntKind.i64.wrap (dF a b c * y * y) = dF a b c * y * y := IntWalk.i64_in _ (by omega)
  have v3 : IntKind.i64.wrap (4 * a) = 4 * a := IntWalk.i64_in _ (by omega)
  have v4 : IntKind.i64.wrap (4 * a * n) = 4 * a * n := IntWalk.i64_in _ (by omega)
  have v5 : IntKind.i64.wrap z = z := IntWalk.i64_in _ (by omega)
  clear hv
  go_enter Tryd.func36, Tryd.ntmps36
  go_wp2_with fail
  have hx0 : heapAt (w.alloc (.cells #[.int .i64 a, .int .i64 b, .int .i64 c] 25)) w.heap.size = some (.cells #[.int .i64 a, .int .i64 b, .int .i64 c] 25 (0, 0)) := (by simp (disch := (first | omega | (simp; done) | (simp; omega))) [*])
  obtain ⟨p0, p1, p2, p3, p4, p5, p6⟩ := blk3 hx0
  go_region_held3 (fun w' => w'.cell? ⟨w.heap.size, 0, none⟩ = some (.int .i64 a) ∧ w'.cell? ⟨w.heap.size, 1, none⟩ = some (.int .i64 b) ∧ w'.cell? ⟨w.heap.size, 2, none⟩ = some (.int .i64 c)) (first | assumption | exact ⟨p1, p2, p3⟩ | (refine ⟨?_, ?_, ?_⟩ <;> ((rw [hc1 _ _ (by first | omega | (simp; done) | (simp; omega))]) <;> first | assumption | exact p1 | exact p2 | exact p3 | (obtain ⟨_, _, _⟩ := ‹World.cell? _ _ = _ ∧ _ ∧ _›; assumption) | (simp [*]; done)))) (first | (go_at_call 52; refine (disc_any _ _ _ _ (by assumption) (by assumption) (by assumption)).mono ?_; rintro e w1 ⟨rfl, hb1⟩; obtain ⟨hc1, hf1, hl1, hB1⟩ := bcell hb1; have hz1 := hb1.size; (try simp at hz1); (try have hk0 : w.heap.size < w1.heap.size := by omega); (try have hk1 : w.heap.size + 1 < w1.heap.size := by omega); (try have hk2 : w.heap.size + 1 + 1 < w1.heap.size := by omega)))
  have hbel1 : Below w.heap.size w w1 := (by repeat' (first | (with_reducible exact Below.refl _ _) | (with_reducible assumption) | (with_reducible refine Below.setCell ?_ ?_ _) | (with_reducible refine Below.alloc ?_ ?_ _) | (with_reducible refine Below.drew ?_) | (with_reducible refine below_drewN ?_ _) | (with_reducible refine Below.trans ?_ (Below.mono (by with_reducible assumption) ?_)) | go_size | (simp at *; omega)))
  have hx1 : heapAt w1 w.heap.size = some (.cells #[.int .i64 a, .int .i64 b, .int .i64 c] 25 (0, 0)) := (by simp (disch := (first | omega | (simp; done) | (simp; omega))) [*])
  clear p0 p1 p2 p3 p4 p5 p6 hx0 hb1 hc1 hf1 hl1 hB1 v1 v2 v3 v4 v5 e0
  obtain ⟨p0, p1, p2, p3, p4, p5, p6⟩ := blk3 hx1
  have hsz1 := hbel1.size
  cases hs : sqB z
  · have HE : Hid (R = []) := Lib.hid (by rw [HP.out, hs]; rfl)
    go_wp2_with (go_at_call 58; refine (isSquare_any _ _ (by omega)).mono ?_; rintro e w1 ⟨rfl, rfl⟩)
    go_ret
    unfold RetL1
    rw [HE.out]
    exact ⟨_, rfl, Own.nil _ _ _ _ _, hbel1⟩
  · have hz0 : 0 ≤ z := by
      simp only [sqB, Bool.and_eq_true, decide_eq_true_eq] at hs
      exact hs.1
    have HE : Hid (R = plT a (Q + rt z) ++ (if 0 < rt z then plT a (Q - rt z) else [])) := Lib.hid (by rw [HP.out, hs]; rfl)
    have s0 := (rt_spec hz0 (by omega)).1
    have s1 : rt z ≤ 20000 := rt_le hz0 (by omega) (by omega) (by omega)
    obtain ⟨s, hsq⟩ : ∃ s, rt z = s := ⟨_, rfl⟩
    rw [hsq] at HE s0 s1
    obtain ⟨T1, hT1⟩ : ∃ T1, Q + s = T1 := ⟨_, rfl⟩
    obtain ⟨T2, hT2⟩ : ∃ T2, Q - s = T2 := ⟨_, rfl⟩
    rw [hT1, hT2] at HE
    have t1 : -200020000 ≤ T1 ∧ T1 ≤ 200020000 := by omega
    have t2 : -200020000 ≤ T2 ∧ T2 ≤ 200020000 := by omega
    have HT : Hid (s = 0 → T2 = T1) := Lib.hid (fun h => by omega)
    obtain ⟨q1, hq1⟩ : ∃ q1, T1.tdiv (2 * a) = q1 := ⟨_, rfl⟩
    obtain ⟨q2, hq2⟩ : ∃ q2, T2.tdiv (2 * a) = q2 := ⟨_, rfl⟩
    have b1' := tdiv_le T1 (2 * a)
    have b2' := tdiv_le T2 (2 * a)
    rw [hq1] at b1'
    rw [hq2] at b2'
    have b3 : ab T1 ≤ 200020000 ∧ ab T2 ≤ 200020000 := by unfold ab; omega
    have hn2 : ¬ 2 * a = 0 := by omega
    obtain ⟨i0', hi, hz0', hz1, hz2⟩ := info_parts infoI
    have HI := Lib.hid (And.intro hi (And.intro hz0' (And.intro hz1 hz2)))
    clear hi hz0' hz1 hz2 d1 z1 z2
    go_wp2_with (first | (go_at_call 58; refine (isSquare_any _ _ (by omega)).mono ?_; rintro e w1 ⟨rfl, rfl⟩) | (go_at_call 57; refine (root_any _ _ (by omega) (by omega)).mono ?_; rintro e w1 ⟨rfl, rfl⟩))
    clear hsq hT1 hT2 hQ hq hs
    go_loopg [8, 45] 2 (fun k v u wr => ((k = 2 ∧ u = .int .i64 0 ∧ v = .slice none 0 0) ∨ (k = 1 ∧ u = .int .i64 1 ∧ Hid (OwnI wr (w1.heap.size + 1) v (plT a T1))) ∨ (k = 0 ∧ u = .int .i64 2 ∧ Hid (OwnI wr (w1.heap.size + 1) v R))) ∧
      heapAt wr w.heap.size = some (.cells #[.int .i64 a, .int .i64 b, .int .i64 c] 25 (0, 0)) ∧ heapAt wr w1.heap.size = some (.cells #[.int .i64 T1, .int .i64 T2] 2 (0, 0)) ∧ Below w.heap.size w wr)
    case atStart => exact ⟨.inl ⟨rfl, rfl, rfl⟩, by rw [heapAt_old p0]; exact hx1, by simp, (by repeat' (first | (with_reducible exact Below.refl _ _) | (with_reducible assumption) | (with_reducible refine Below.setCell ?_ ?_ _) | (with_reducible refine Below.alloc ?_ ?_ _) | (with_reducible refine Below.drew ?_) | (with_reducible refine below_drewN ?_ _) | (with_reducible refine Below.trans ?_ (Below.mono (by with_reducible assumption) ?_)) | go_size | (simp at *; omega)))⟩
    case round =>
      obtain ⟨hcase, hx, hy, hbel⟩ := hrel
      have hsz := hbel.size
      clear hx1 p0 p1 p2 p3 p4 p5 p6
      obtain ⟨p0, p1, p2, p3, p4, p5, p6⟩ := blk3 hx
      obtain ⟨r0, r1, r2, r3, r4⟩ := blk2 hy
      have e45 := hn2
      rcases hcase with ⟨rfl, rfl, rfl⟩ | ⟨rfl, rfl, HO⟩ | ⟨rfl, rfl, HO⟩
      · cases hm1 : (T1.tmod (2 * a) == 0)
        · have HL := Lib.hid (plT_no hm1)
          go_wp2
          go_roundg 1
          case measure => omega
          case rel => exact ⟨.inr (.inl ⟨rfl, rfl, Lib.hid (by rw [HL.out]; exact Own.nil _ _ _ _ _)⟩), hx, hy, hbel⟩
        · have HL := Lib.hid (plT_yes hm1)
          obtain ⟨hi, hz0', hz1, hz2⟩ := HI.out
          go_wp2_with (at_builtin; refine wpList_append_own _ rfl _ _ 36 rfl (w1.heap.size + 1) 2 i0' (.int .i64 0) 1 8 Tryd.underlying36 hi hz0' hz1 hz2 rfl (by decide) _ _ _ rfl (World.ownsRow_nil _ _ _ _) ⟨wr.heap.size, 0, none⟩ 1 1 [.int .i64 q1] rfl rfl ?c1 ?c2 ?c3 ?c4 ?c5 ?_)
          case c1 => exact newcs _ _ _ _ rfl
          case c2 => exact one_cell _
          case c3 => unfold maxLen; (try simp); (try omega)
          case c4 => (try simp); (try omega)
          case c5 => simp; omega
          intro v' w3 hown' hgrow hnn
          have hN : OwnI w3 (w1.heap.size + 1) v' ([] ++ [q1]) := appI (L := []) (f := q1) hown'
          have HN := Lib.hid hN
          have hbx : heapAt w3 w.heap.size = some (.cells #[.int .i64 a, .int .i64 b, .int .i64 c] 25 (0, 0)) := by rw [grown_atL hgrow (by simp [Value.ownBlock]) (by simp; omega), heapAt_old (by omega)]; exact hx
          have har : heapAt w3 w1.heap.size = some (.cells #[.int .i64 T1, .int .i64 T2] 2 (0, 0)) := by rw [grown_atL hgrow (by simp [Value.ownBlock]) (by simp; omega), heapAt_old (by omega)]; exact hy
          have hb3 : Below w.heap.size w w3 := Below.grown (Below.alloc hbel (by omega) _) hgrow (by simp; omega) (fun k hk => by simp [Value.ownBlock] at hk)
          clear hown' hgrow hnn hi hz0' hz1 hz2 hN
          go_wp2
          go_roundg 1
          case measure => omega
          case rel => exact ⟨.inr (.inl ⟨rfl, rfl, Lib.hid (by rw [HL.out, hq1]; exact HN.out)⟩), hbx, har, hb3⟩
          
      · by_cases hs0 : 0 < s
        · cases hm1 : (T1.tmod (2 * a) == 0)
          · clear e45
            rw [plT_no hm1] at HO
            have HE1 := Lib.hid (neL HO.out (b := w.heap.size) (.inl (by omega)))
            have HE2 := Lib.hid (neL HO.out (b := w1.heap.size) (.inl (by omega)))
            obtain ⟨ao, cap, hv8⟩ := HO.out.len
            subst hv8
            cases hm2 : (T2.tmod (2 * a) == 0)
            · have HR : Hid (R = []) := Lib.hid (by rw [HE.out, if_pos hs0, plT_no hm1, plT_no hm2] <;> first | (simp; done) | (simp [hq1]; done))
              go_wp2
              go_roundg 0
              case measure => omega
              case rel => exact ⟨.inr (.inr ⟨rfl, rfl, Lib.hid (by rw [HR.out]; have h := HO.out; (try rw [hq1] at h); exact h)⟩), hx, hy, hbel⟩
            · have HR : Hid (R = [] ++ [q2]) := Lib.hid (by rw [HE.out, if_pos hs0, plT_no hm1, plT_yes hm2, hq2] <;> first | (simp; done) | (simp [hq1]; done))
              obtain ⟨hi, hz0', hz1, hz2⟩ := HI.out
              go_wp2_with (at_builtin; refine wpList_append_own _ rfl _ _ 36 rfl (w1.heap.size + 1) 2 i0' (.int .i64 0) 1 8 Tryd.underlying36 hi hz0' hz1 hz2 rfl (by decide) _ _ _ rfl (World.ownsRow.alloc HO.out _) ⟨wr.heap.size, 0, none⟩ 1 1 [.int .i64 q2] rfl rfl ?c1 ?c2 ?c3 ?c4 ?c5 ?_)
              case c1 => exact newcs _ _ _ _ rfl
              case c2 => exact one_cell _
              case c3 => unfold maxLen; (try simp); (try omega)
              case c4 => (try simp); (try omega)
              case c5 => simp; omega
              intro v' w3 hown' hgrow hnn
              have hN : OwnI w3 (w1.heap.size + 1) v' ([] ++ [q2]) := appI (L := []) (f := q2) (by have h := hown'; (try rw [hq1] at h); exact h)
              have HN := Lib.hid hN
              have hbx : heapAt w3 w.heap.size = some (.cells #[.int .i64 a, .int .i64 b, .int .i64 c] 25 (0, 0)) := by rw [grown_atL hgrow HE1.out (by simp; omega), heapAt_old (by omega)]; exact hx
              have har : heapAt w3 w1.heap.size = some (.cells #[.int .i64 T1, .int .i64 T2] 2 (0, 0)) := by rw [grown_atL hgrow HE2.out (by simp; omega), heapAt_old (by omega)]; exact hy
              have hb3 : Below w.heap.size w w3 := Below.grown (Below.alloc hbel (by omega) _) hgrow (by simp; omega) (fun k hk => by have := (HO.out.lt k hk).1; omega)
              clear hown' hgrow hnn hi hz0' hz1 hz2 hN
              go_wp2
              go_roundg 0
              case measure => omega
              case rel => exact ⟨.inr (.inr ⟨rfl, rfl, Lib.hid (by rw [HR.out]; exact HN.out)⟩), hbx, har, hb3⟩
          · clear e45
            rw [plT_yes hm1] at HO
            have HE1 := Lib.hid (neL HO.out (b := w.heap.size) (.inl (by omega)))
            have HE2 := Lib.hid (neL HO.out (b := w1.heap.size) (.inl (by omega)))
            obtain ⟨ao, cap, hv8⟩ := HO.out.len
            subst hv8
            cases hm2 : (T2.tmod (2 * a) == 0)
            · have HR : Hid (R = [q1]) := Lib.hid (by rw [HE.out, if_pos hs0, plT_yes hm1, plT_no hm2] <;> first | (simp; done) | (simp [hq1]; done))
              go_wp2
              go_roundg 0
              case measure => omega
              case rel => exact ⟨.inr (.inr ⟨rfl, rfl, Lib.hid (by rw [HR.out]; have h := HO.out; (try rw [hq1] at h); exact h)⟩), hx, hy, hbel⟩
            · have HR : Hid (R = [q1] ++ [q2]) := Lib.hid (by rw [HE.out, if_pos hs0, plT_yes hm1, plT_yes hm2, hq2] <;> first | (simp; done) | (simp [hq1]; done))
              obtain ⟨hi, hz0', hz1, hz2⟩ := HI.out
              go_wp2_with (at_builtin; refine wpList_append_own _ rfl _ _ 36 rfl (w1.heap.size + 1) 2 i0' (.int .i64 0) 1 8 Tryd.underlying36 hi hz0' hz1 hz2 rfl (by decide) _ _ _ rfl (World.ownsRow.alloc HO.out _) ⟨wr.heap.size, 0, none⟩ 1 1 [.int .i64 q2] rfl rfl ?c1 ?c2 ?c3 ?c4 ?c5 ?_)
              case c1 => exact newcs _ _ _ _ rfl
              case c2 => exact one_cell _
              case c3 => unfold maxLen; (try simp); (try omega)
              case c4 => (try simp); (try omega)
              case c5 => simp; omega
              intro v' w3 hown' hgrow hnn
              have hN : OwnI w3 (w1.heap.size + 1) v' ([q1] ++ [q2]) := appI (L := [q1]) (f := q2) (by have h := hown'; (try rw [hq1] at h); exact h)
              have HN := Lib.hid hN
              have hbx : heapAt w3 w.heap.size = some (.cells #[.int .i64 a, .int .i64 b, .int .i64 c] 25 (0, 0)) := by rw [grown_atL hgrow HE1.out (by simp; omega), heapAt_old (by omega)]; exact hx
              have har : heapAt w3 w1.heap.size = some (.cells #[.int .i64 T1, .int .i64 T2] 2 (0, 0)) := by rw [grown_atL hgrow HE2.out (by simp; omega), heapAt_old (by omega)]; exact hy
              have hb3 : Below w.heap.size w w3 := Below.grown (Below.alloc hbel (by omega) _) hgrow (by simp; omega) (fun k hk => by have := (HO.out.lt k hk).1; omega)
              clear hown' hgrow hnn hi hz0' hz1 hz2 hN
              go_wp2
              go_roundg 0
              case measure => omega
              case rel => exact ⟨.inr (.inr ⟨rfl, rfl, Lib.hid (by rw [HR.out]; exact HN.out)⟩), hbx, har, hb3⟩
        · have HS1 : Hid (s = 0) := Lib.hid (by omega)
          have hs2 : (0 < s) = False := eq_false hs0
          cases hm1 : (T1.tmod (2 * a) == 0)
          · clear e45
            rw [plT_no hm1] at HO
            have hm2 : (T2.tmod (2 * a) == 0) = false := by rw [HT.out HS1.out]; exact hm1
            have HR : Hid (R = []) := Lib.hid (by rw [HE.out, if_neg hs0, plT_no hm1] <;> first | (simp; done) | (simp [hq1]; done))
            obtain ⟨ao, cap, hv8⟩ := HO.out.len
            subst hv8
            go_wp2
            go_roundg 0
            case measure => omega
            case rel => exact ⟨.inr (.inr ⟨rfl, rfl, Lib.hid (by rw [HR.out]; have h := HO.out; (try rw [hq1] at h); exact h)⟩), hx, hy, hbel⟩
          · clear e45
            rw [plT_yes hm1] at HO
            have hm2 : (T2.tmod (2 * a) == 0) = true := by rw [HT.out HS1.out]; exact hm1
            have HR : Hid (R = [q1]) := Lib.hid (by rw [HE.out, if_neg hs0, plT_yes hm1] <;> first | (simp; done) | (simp [hq1]; done))
            obtain ⟨ao, cap, hv8⟩ := HO.out.len
            subst hv8
            go_wp2
            go_roundg 0
            case measure => omega
            case rel => exact ⟨.inr (.inr ⟨rfl, rfl, Lib.hid (by rw [HR.out]; have h := HO.out; (try rw [hq1] at h); exact h)⟩), hx, hy, hbel⟩
      · go_wp2
        go_ret
        unfold RetL1
        exact ⟨_, rfl, HO.out.mono (by omega), hbel⟩
end Go.Proofs.YtodbmnbahldabaaDoor
