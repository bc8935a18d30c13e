/- All reduced forms of a discriminant: the reference's loops. -/
import Derived.Test.YtodbmnbahldabaaDoorFmsC
namespace Go.Proofs.YtodbmnbahldabaaDoor
open Go.ChangeShapes Go.WideShapes Go.ChangeAt Go.RowKit
set_option linter.unusedVariables false
set_option maxHeartbeats 1000000
/-- The call hands back a list of forms of its own. -/
def RetF (w : World) (L : List Fm) (e : Ending) (w' : World) : Prop := ∃ v, e = .returned v ∧ OwnF w' w.heap.size v L ∧ Below w.heap.size w w'
theorem inn_succ (d m a : Int) (j : Nat) : innF d m a (j + 1) = innF d m a j ++ tstF d a (-m + j) := rfl
theorem out_succ (d m : Int) (i : Nat) : outF d m (i + 1) = outF d m i ++ (if -m + (i : Int) = 0 then [] else innF d m (-m + i) (2 * m + 1).toNat) := rfl
/-- What an append to an owned list of forms leaves. -/
theorem app_one {w w' : World} {B : Nat} {v v' : Value} {L : List Fm} {f : Fm} (h : w'.ownsRow B 25 3 v' (L.length + 1) (rowsOf gF L ++ [.int .i64 f.a, .int .i64 f.b, .int .i64 f.c])) : OwnF w' B v' (L ++ [f]) := Own.more (x := f) h
theorem new_cells (w : World) (cs : Array Value) (T : TypeId) (l : List Value) (hl : cs.toList = l) : ∀ j u, l[j]? = some u → (w.alloc (.cells cs T)).cell? ((⟨w.heap.size, 0, none⟩ : Addr).add j) = some u := by
  intro j u hu
  subst hl
  have e : (⟨w.heap.size, 0, none⟩ : Addr).add j = ⟨w.heap.size, j, none⟩ := by rw [Addr.add_lit, Nat.zero_add]
  rw [e, World.cell?_alloc_new]
  simpa using hu
theorem three_cells (x y z : Int) : ∀ u ∈ [Value.int .i64 x, Value.int .i64 y, Value.int .i64 z], u.oneCell' = true := by
  intro u hu
  simp at hu
  rcases hu with rfl | rfl | rfl <;> rfl
theorem l11All_any (d : Int) (w : World) (hd : -2000 ≤ d ∧ d ≤ 2000) :
    Calls Tryd.prog 47 #[.int .i64 d] w (RetF w (allF d)) := by
  have hm := rt44 hd
  have ha : 0 ≤ ab d ∧ ab d ≤ 2000 := by unfold ab; omega
  have HR : Hid (outF d (rt (ab d)) (2 * rt (ab d) + 1).toNat = allF d) := Lib.hid rfl
  generalize allF d = R at *
  obtain ⟨i0, hi, hz0, hz1, hz2⟩ := info_parts infoF
  have HI := Lib.hid (And.intro hi (And.intro hz0 (And.intro hz1 hz2)))
  clear hi hz0 hz1 hz2
  go_enter Tryd.func47, Tryd.ntmps47
  go_wp2_with (first | (go_at_call 66; refine (size_any _ _ (by omega)).mono ?_; rintro e w1 ⟨rfl, rfl⟩) | (go_at_call 55; refine (l07Root_any _ _ (by omega)).mono ?_; rintro e w1 ⟨rfl, rfl⟩))
  generalize rt (ab d) = m at *
  go_loopg [3, 5] (2 * m + 1).toNat (fun k v u wr => ∃ i : Nat, (i : Int) + k = 2 * m + 1 ∧ u = .int .i64 (-m + i) ∧ Hid (OwnF wr w.heap.size v (outF d m i)) ∧ Below w.heap.size w wr)
  case atStart => exact ⟨0, by omega, by simp, Lib.hid (Own.empty w _ _ _ _ (Nat.le_refl _)), (by repeat' (first | (with_reducible exact Below.refl _ _) | (with_reducible assumption) | (with_reducible refine Below.setCell ?_ ?_ _) | (with_reducible refine Below.alloc ?_ ?_ _) | (with_reducible refine Below.drew ?_) | (with_reducible refine below_drewN ?_ _) | (with_reducible refine Below.trans ?_ (Below.mono (by with_reducible assumption) ?_)) | go_size | (simp at *; omega)))⟩
  case round =>
    obtain ⟨i, hik, rfl, HO, hbel⟩ := hrel
    have hsz := hbel.size
    by_cases hlt : (i : Int) < 2 * m + 1
    · obtain ⟨k1, rfl⟩ : ∃ k1, gk = k1 + 1 := ⟨gk - 1, by omega⟩
      obtain ⟨wo, hwo⟩ : ∃ wo : World, wo = wr := ⟨_, rfl⟩
      subst hwo
      have hle : -m + (i : Int) ≤ m := by omega
      go_wp2
      go_loopg [3, 6] (2 * m + 1).toNat (fun k v u wr => ∃ j : Nat, (j : Int) + k = 2 * m + 1 ∧ u = .int .i64 (-m + j) ∧ Hid (OwnF wr w.heap.size v (outF d m i ++ innF d m (-m + i) j)) ∧ Below w.heap.size w wr ∧ (-m + (i : Int) = 0 → j = 0))
      case atStart => exact ⟨0, by omega, by simp, Lib.hid (by rw [show innF d m (-m + i) 0 = [] from rfl, List.append_nil]; exact HO.out), hbel, fun _ => rfl⟩
      case round =>
        obtain ⟨j, hjk, rfl, HP, hbel2, hj0⟩ := hrel
        have hsz2 := hbel2.size
        have hlen : (outF d m i ++ innF d m (-m + i) j).length ≤ 10000 := by
          have h1 := outF_len d m i
          have h2 := innF_len d m (-m + i) j
          have h3 : i * (2 * m + 1).toNat ≤ 89 * 89 := Nat.mul_le_mul (by omega) (by omega)
          rw [List.length_append]
          omega
        by_cases hz : -m + (i : Int) = 0
        · have hzb : (-m + (i : Int) != 0) = false := by simp [hz]
          have HZ := Lib.hid hz
          obtain rfl := hj0 hz
          clear hz hj0
          go_wp2
          all_goals
            go_roundg k1
            case measure => omega
            case rel => exact ⟨i + 1, by omega, by go_num, Lib.hid (by rw [out_succ, if_pos HZ.out, List.append_nil]; have h := HP.out; rw [show innF d m (-m + i) 0 = [] from rfl, List.append_nil] at h; exact h), hbel2⟩
        · have hzb : (-m + (i : Int) != 0) = true := by simp [hz]
          have HZ := Lib.hid hz
          by_cases hjl : (j : Int) < 2 * m + 1
          · have b1 : -44 ≤ -m + (j : Int) ∧ -m + (j : Int) ≤ 44 := by omega
            have a1 : -44 ≤ -m + (i : Int) ∧ -m + (i : Int) ≤ 44 := by omega
            have hbm : -m + (j : Int) ≤ m := by omega
            have hn4 : ¬ 4 * (-m + (i : Int)) = 0 := by omega
            have hj0' := Lib.hid hj0
            clear hz hj0
            have q := sq44 b1
            generalize hbb : -m + (j : Int) = b at *
            have HB := Lib.hid hbb
            clear hbb
            cases ht : ((b * b - d).tmod (4 * (-m + (i : Int))) != 0)
            · obtain ⟨C, hC⟩ : ∃ C, (b * b - d).tdiv (4 * (-m + (i : Int))) = C := ⟨_, rfl⟩
              have hCb := tdiv_le (b * b - d) (4 * (-m + (i : Int)))
              have hab : ab (b * b - d) ≤ 5000 := by unfold ab; omega
              rw [hC] at hCb
              have HC := Lib.hid hC
              cases hv : vF (-m + (i : Int)) b C
              · have HT := Lib.hid (tst_bad ht hC (by rw [hv]; rfl))
                go_wp2_with fail; refine (l11Ok_any _ _ _ _).mono ?_; rintro e w1 ⟨rfl, hb1⟩; obtain ⟨hc1, hf1, -, hB1⟩ := bcell hb1; have hz1 := hb1.size; (try simp at hz1); (try have hk1_0 : w.heap.size < w1.heap.size := by omega); (try have hk1_1 : w.heap.size + 1 < w1.heap.size := by omega); (try have hk1_2 : w.heap.size + 1 + 1 < w1.heap.size := by omega); (try have hk1_3 : w.heap.size + 1 + 1 + 1 < w1.heap.size := by omega); (try have hk1_4 : wr.heap.size < w1.heap.size := by omega); (try have hk1_5 : wr.heap.size + 1 < w1.heap.size := by omega)
                go_wp2_with fail
                go_roundg (gk - 1)
                case measure => omega
                case rel => exact ⟨j + 1, by omega, by rw [← HB.out]; go_num, Lib.hid (by rw [inn_succ, HB.out, HT.out, List.append_nil]; exact HP.out.below (by repeat' (first | (with_reducible exact Below.refl _ _) | (with_reducible assumption) | (with_reducible refine Below.setCell ?_ ?_ _) | (with_reducible refine Below.alloc ?_ ?_ _) | (with_reducible refine Below.drew ?_) | (with_reducible refine below_drewN ?_ _) | (with_reducible refine Below.trans ?_ (Below.mono (by with_reducible assumption) ?_)) | go_size | (simp at *; omega)))), (by repeat' (first | (with_reducible exact Below.refl _ _) | (with_reducible assumption) | (with_reducible refine Below.setCell ?_ ?_ _) | (with_reducible refine Below.alloc ?_ ?_ _) | (with_reducible refine Below.drew ?_) | (with_reducible refine below_drewN ?_ _) | (with_reducible refine Below.trans ?_ (Below.mono (by with_reducible assumption) ?_)) | go_size | (simp at *; omega))), fun h => absurd h HZ.out⟩
              · obtain ⟨v1, v2, v3⟩ := vF_in hv
                cases hr : redF (-m + (i : Int)) b C
                · have HT := Lib.hid (tst_bad ht hC (by rw [hv, hr]; rfl))
                  go_wp2_with fail; refine (l11Ok_any _ _ _ _).mono ?_; rintro e w1 ⟨rfl, hb1⟩; obtain ⟨hc1, hf1, -, hB1⟩ := bcell hb1; have hz1 := hb1.size; (try simp at hz1); (try have hk1_0 : w.heap.size < w1.heap.size := by omega); (try have hk1_1 : w.heap.size + 1 < w1.heap.size := by omega); (try have hk1_2 : w.heap.size + 1 + 1 < w1.heap.size := by omega); (try have hk1_3 : w.heap.size + 1 + 1 + 1 < w1.heap.size := by omega); (try have hk1_4 : wr.heap.size < w1.heap.size := by omega); (try have hk1_5 : wr.heap.size + 1 < w1.heap.size := by omega)
                  go_wp2_with fail; refine (l11Reduced_any _ _ _ _ v1 v2 v3).mono ?_; rintro e w2 ⟨rfl, hb2⟩; obtain ⟨hc2, hf2, -, hB2⟩ := bcell hb2; have hz2 := hb2.size; (try simp at hz2); (try have hk2_0 : w.heap.size < w2.heap.size := by omega); (try have hk2_1 : w.heap.size + 1 < w2.heap.size := by omega); (try have hk2_2 : w.heap.size + 1 + 1 < w2.heap.size := by omega); (try have hk2_3 : w.heap.size + 1 + 1 + 1 < w2.heap.size := by omega); (try have hk2_4 : wr.heap.size < w2.heap.size := by omega); (try have hk2_5 : wr.heap.size + 1 < w2.heap.size := by omega); (try have hk2_6 : w1.heap.size < w2.heap.size := by omega); (try have hk2_7 : w1.heap.size + 1 < w2.heap.size := by omega)
                  go_wp2_with fail
                  go_roundg (gk - 1)
                  case measure => omega
                  case rel => exact ⟨j + 1, by omega, by rw [← HB.out]; go_num, Lib.hid (by rw [inn_succ, HB.out, HT.out, List.append_nil]; exact HP.out.below (by repeat' (first | (with_reducible exact Below.refl _ _) | (with_reducible assumption) | (with_reducible refine Below.setCell ?_ ?_ _) | (with_reducible refine Below.alloc ?_ ?_ _) | (with_reducible refine Below.drew ?_) | (with_reducible refine below_drewN ?_ _) | (with_reducible refine Below.trans ?_ (Below.mono (by with_reducible assumption) ?_)) | go_size | (simp at *; omega)))), (by repeat' (first | (with_reducible exact Below.refl _ _) | (with_reducible assumption) | (with_reducible refine Below.setCell ?_ ?_ _) | (with_reducible refine Below.alloc ?_ ?_ _) | (with_reducible refine Below.drew ?_) | (with_reducible refine below_drewN ?_ _) | (with_reducible refine Below.trans ?_ (Below.mono (by with_reducible assumption) ?_)) | go_size | (simp at *; omega))), fun h => absurd h HZ.out⟩
                · have HT := Lib.hid (tst_yes ht hC (by rw [hv, hr]; rfl))
                  go_wp2_with fail; refine (l11Ok_any _ _ _ _).mono ?_; rintro e w1 ⟨rfl, hb1⟩; obtain ⟨hc1, hf1, -, hB1⟩ := bcell hb1; have hz1 := hb1.size; (try simp at hz1); (try have hk1_0 : w.heap.size < w1.heap.size := by omega); (try have hk1_1 : w.heap.size + 1 < w1.heap.size := by omega); (try have hk1_2 : w.heap.size + 1 + 1 < w1.heap.size := by omega); (try have hk1_3 : w.heap.size + 1 + 1 + 1 < w1.heap.size := by omega); (try have hk1_4 : wr.heap.size < w1.heap.size := by omega); (try have hk1_5 : wr.heap.size + 1 < w1.heap.size := by omega)
                  go_wp2_with fail; refine (l11Reduced_any _ _ _ _ v1 v2 v3).mono ?_; rintro e w2 ⟨rfl, hb2⟩; obtain ⟨hc2, hf2, -, hB2⟩ := bcell hb2; have hz2 := hb2.size; (try simp at hz2); (try have hk2_0 : w.heap.size < w2.heap.size := by omega); (try have hk2_1 : w.heap.size + 1 < w2.heap.size := by omega); (try have hk2_2 : w.heap.size + 1 + 1 < w2.heap.size := by omega); (try have hk2_3 : w.heap.size + 1 + 1 + 1 < w2.heap.size := by omega); (try have hk2_4 : wr.heap.size < w2.heap.size := by omega); (try have hk2_5 : wr.heap.size + 1 < w2.heap.size := by omega); (try have hk2_6 : w1.heap.size < w2.heap.size := by omega); (try have hk2_7 : w1.heap.size + 1 < w2.heap.size := by omega)
                  have HP2 := Lib.hid (HP.out.below (w' := w2) (by repeat' (first | (with_reducible exact Below.refl _ _) | (with_reducible assumption) | (with_reducible refine Below.setCell ?_ ?_ _) | (with_reducible refine Below.alloc ?_ ?_ _) | (with_reducible refine Below.drew ?_) | (with_reducible refine below_drewN ?_ _) | (with_reducible refine Below.trans ?_ (Below.mono (by with_reducible assumption) ?_)) | go_size | (simp at *; omega))))
                  have hbel3 : Below w.heap.size w w2 := (by repeat' (first | (with_reducible exact Below.refl _ _) | (with_reducible assumption) | (with_reducible refine Below.setCell ?_ ?_ _) | (with_reducible refine Below.alloc ?_ ?_ _) | (with_reducible refine Below.drew ?_) | (with_reducible refine below_drewN ?_ _) | (with_reducible refine Below.trans ?_ (Below.mono (by with_reducible assumption) ?_)) | go_size | (simp at *; omega)))
                  have hsz3 := hbel3.size
                  obtain ⟨hi, hz0, hz1, hz2⟩ := HI.out
                  obtain ⟨L, hL⟩ : ∃ L, outF d m i ++ innF d m (-m + (i : Int)) j = L := ⟨_, rfl⟩
                  rw [hL] at HP2 hlen
                  have HL := Lib.hid hL
                  clear hL HP
                  go_wp2_with (at_builtin; refine wpList_append_own _ rfl _ _ 40 rfl w.heap.size 25 i0 (.agg #[.int .i64 0, .int .i64 0, .int .i64 0]) 3 24 Tryd.underlying40 hi hz0 hz1 hz2 rfl (by decide) _ _ _ rfl (World.ownsRow.alloc HP2.out _) ⟨w2.heap.size, 0, none⟩ 1 1 [.int .i64 (-m + (i : Int)), .int .i64 b, .int .i64 C] rfl rfl ?c1 ?c2 ?c3 ?c4 ?c5 ?_)
                  case c1 => exact new_cells _ _ _ _ rfl
                  case c2 => exact three_cells _ _ _
                  case c3 => unfold maxLen; omega
                  case c4 => omega
                  case c5 => simp; omega
                  intro v' w3 hown' hgrow hnn
                  have HN := Lib.hid (app_one (w := w) (v := u3) (f := ⟨-m + (i : Int), b, C⟩) hown')
                  have hb3 : Below w.heap.size w w3 := Below.grown (Below.alloc hbel3 (by omega) _) hgrow (by simp; omega) (fun k hk => (HP2.out.lt k hk).1)
                  clear hown' hgrow hnn hi hz0 hz1 hz2
                  go_wp2
                  go_roundg (gk - 1)
                  case measure => omega
                  case rel => exact ⟨j + 1, by omega, by rw [← HB.out]; go_num, Lib.hid (by rw [inn_succ, HB.out, HT.out, ← List.append_assoc, HL.out]; exact HN.out), hb3, fun h => absurd h HZ.out⟩
            · have HT := Lib.hid (tst_no ht)
              go_wp2
              go_roundg (gk - 1)
              case measure => omega
              case rel => exact ⟨j + 1, by omega, by rw [← HB.out]; go_num, Lib.hid (by rw [inn_succ, HB.out, HT.out, List.append_nil]; exact HP.out), hbel2, fun h => absurd h HZ.out⟩
          · have hjl' : ¬ -m + (j : Int) ≤ m := by omega
            have EQ : Hid (j = (2 * m + 1).toNat) := Lib.hid (by omega)
            clear hz hj0
            go_wp2
            all_goals
              go_roundg k1
              case measure => omega
              case rel => exact ⟨i + 1, by omega, by go_num, Lib.hid (by rw [out_succ, if_neg HZ.out, ← EQ.out]; exact HP.out), hbel2⟩
    · go_wp2
      go_ret
      unfold RetF
      refine ⟨_, rfl, ?_, hbel⟩
      have e : i = (2 * m + 1).toNat := by omega
      subst e
      rw [← HR.out]
      exact HO.out
end Go.Proofs.YtodbmnbahldabaaDoor
