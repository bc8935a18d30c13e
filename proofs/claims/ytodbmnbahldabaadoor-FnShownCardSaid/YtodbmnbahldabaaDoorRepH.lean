/- Forms of a discriminant that show a number: both packages, and the law. -/
import Derived.Test.YtodbmnbahldabaaDoorRepG
namespace Go.Proofs.YtodbmnbahldabaaDoor
open Go.ChangeShapes Go.WideShapes Go.ChangeAt Go.RowKit
set_option linter.unusedVariables false
set_option maxHeartbeats 3000000
theorem isDefinite_any (d : Int) (w : World) (hd : -2000 ≤ d ∧ d ≤ 2000) :
    Calls Tryd.prog 44 #[.int .i64 d] w fun e w' => e = .returned (.bool (decide (d < 0) && decide (d % 4 ≤ 1))) ∧ w = w' := by
  by_cases h : d < 0
  · go_enter Tryd.func44, Tryd.ntmps44
    go_wp2_with (go_at_call 61; refine (floorMod_any _ _ _ (by omega) (by omega)).mono ?_; rintro e w1 ⟨rfl, rfl⟩)
    all_goals
      go_ret
      exact ⟨ret_bool (by rw [Bool.eq_iff_iff]; (try simp); (try omega)), rfl⟩
  · go_enter Tryd.func44, Tryd.ntmps44
    go_wp2_with (go_at_call 61; refine (floorMod_any _ _ _ (by omega) (by omega)).mono ?_; rintro e w1 ⟨rfl, rfl⟩)
    all_goals
      go_ret
      exact ⟨ret_bool (by rw [Bool.eq_iff_iff]; (try simp); (try omega)), rfl⟩
theorem isDefinite_is {d : Int} {b : Bool} (h : (decide (d < 0) && decide (d % 4 ≤ 1)) = b) (w : World) (hd : -2000 ≤ d ∧ d ≤ 2000) :
    Calls Tryd.prog 44 #[.int .i64 d] w fun e w' => e = .returned (.bool b) ∧ w = w' := by
  subst h
  exact isDefinite_any d w hd
theorem own_al {w : World} {B : Nat} {v : Value} {L : List Fm} (h : OwnF w B v L) (o : Obj) : OwnF (w.alloc o) B v L := World.ownsRow.alloc h o
theorem cff_six {d n : Int} (hn : inR n 1 10000 = true) (hi : inR d (-2000) 2000 = true) (hz : ¬ cffR d n = 0) : cffR d n = 6 := by
  unfold cffR at *
  rw [if_pos hn, if_pos hi] at *
  split at hz
  · exact absurd rfl hz
  · rename_i h; rw [if_neg h]
theorem iFormsFor_any (d n : Int) (w : World) :
    Calls Tryd.prog 18 #[.int .i64 d, .int .i64 n] w (RetFC w (ffR d n) (cffR d n)) := by
  cases hn : inR n 1 10000
  · have HC : Hid (cffR d n = 2) := Lib.hid (by simp [cffR, hn])
    have HA : Hid (ffR d n = []) := Lib.hid (by unfold ffR; rw [if_neg (by rw [HC.out]; decide)])
    have HN := Lib.hid hn
    clear hn
    go_enter Tryd.func18, Tryd.ntmps18
    go_wp2_with (go_at_call 29; refine (withinR HN.out _).mono ?_; rintro e w1 ⟨rfl, rfl⟩)
    go_ret2
    unfold RetFC
    rw [HA.out, HC.out]
    exact ⟨_, rfl, Own.nil _ _ _ _ _, Below.refl _ _⟩
  · cases hi : inR d (-2000) 2000
    · have HC : Hid (cffR d n = 2) := Lib.hid (by simp [cffR, hn, hi])
      have HA : Hid (ffR d n = []) := Lib.hid (by unfold ffR; rw [if_neg (by rw [HC.out]; decide)])
      have HN := Lib.hid hn
      have HI := Lib.hid hi
      clear hn hi
      go_enter Tryd.func18, Tryd.ntmps18
      go_wp2_with ((go_at_call 29; first | (with_reducible refine (withinR HN.out _).mono ?_) | (with_reducible refine (withinR HI.out _).mono ?_)); rintro e w1 ⟨rfl, rfl⟩)
      go_ret2
      unfold RetFC
      rw [HA.out, HC.out]
      exact ⟨_, rfl, Own.nil _ _ _ _ _, Below.refl _ _⟩
    · have hd := inR_iff.1 hi
      have hnn := inR_iff.1 hn
      have HN := Lib.hid hn
      have HI := Lib.hid hi
      cases hf : (decide (d < 0) && decide (d % 4 ≤ 1))
      · have HC : Hid (cffR d n = 6) := Lib.hid (by unfold cffR; rw [if_pos hn, if_pos hi, hf]; rfl)
        have HA : Hid (ffR d n = []) := Lib.hid (by unfold ffR; rw [if_neg (by rw [HC.out]; decide)])
        have HF := Lib.hid hf
        clear hn hi hf
        go_enter Tryd.func18, Tryd.ntmps18
        go_wp2_with (first | ((go_at_call 29; first | (with_reducible refine (withinR HN.out _).mono ?_) | (with_reducible refine (withinR HI.out _).mono ?_)); rintro e w1 ⟨rfl, rfl⟩) | (go_at_call 44; refine (isDefinite_is HF.out _ hd).mono ?_; rintro e w1 ⟨rfl, rfl⟩))
        go_ret2
        unfold RetFC
        rw [HA.out, HC.out]
        exact ⟨_, rfl, Own.nil _ _ _ _ _, Below.refl _ _⟩
      · have HC : Hid (cffR d n = 0) := Lib.hid (by unfold cffR; rw [if_pos hn, if_pos hi, hf]; rfl)
        have HG := Lib.hid (cff_zero HC.out).2.2.1
        have HA : Hid (ffP n (allF d) (allF d).length = ffR d n) := Lib.hid (by unfold ffR; rw [if_pos HC.out])
        have HF := Lib.hid hf
        have HM : Hid (∀ z ∈ allF d, vF z.a z.b z.c = true ∧ dF z.a z.b z.c = d) := Lib.hid (fun z hz => mem_all hz)
        have hlen := all_len hd
        clear hn hi hf
        have HQ := Lib.hid (reducedForms_any d · hd)
        generalize allF d = L at *
        generalize ffR d n = R at *
        obtain ⟨i0', hi, hz0', hz1, hz2⟩ := info_parts infoF
        have HI0 := Lib.hid (And.intro hi (And.intro hz0' (And.intro hz1 hz2)))
        clear hi hz0' hz1 hz2
        go_enter Tryd.func18, Tryd.ntmps18
        go_wp2_with (first | ((go_at_call 29; first | (with_reducible refine (withinR HN.out _).mono ?_) | (with_reducible refine (withinR HI.out _).mono ?_)); rintro e w1 ⟨rfl, rfl⟩) | (go_at_call 44; refine (isDefinite_is HF.out _ hd).mono ?_; rintro e w1 ⟨rfl, rfl⟩))
        refine (HQ.out _).mono ?_
        intro e w1 hr
        unfold RetF at hr
        obtain ⟨V, rfl, hV, hb1⟩ := hr
        have H := Lib.hid hV
        have hbel1 : Below w.heap.size w w1 := (by repeat' (first | (with_reducible exact Below.refl _ _) | (with_reducible assumption) | (with_reducible refine Below.setCell ?_ ?_ _) | (with_reducible refine Below.alloc ?_ ?_ _) | (with_reducible refine Below.drew ?_) | (with_reducible refine below_drewN ?_ _) | (with_reducible refine Below.trans ?_ (Below.mono (by with_reducible assumption) ?_)) | go_size | (simp at *; omega)))
        obtain ⟨ao, cap, hv⟩ := hV.len
        clear hV
        subst hv
        have hsz1 := hbel1.size
        clear hb1
        go_wp2_with fail
        go_loopg [6, 28] L.length (fun k v u wr => ∃ i : Nat, i + k = L.length ∧ u = .int .i64 i ∧ Hid (OwnF wr w1.heap.size v (ffP n L i)) ∧ Below w1.heap.size w1 wr)
        case atStart => exact ⟨0, by omega, rfl, Lib.hid (by rw [ffP_zero]; exact Own.nil _ _ _ _ _), Below.refl _ _⟩
        case round =>
          obtain ⟨i, hik, rfl, HO, hbel⟩ := hrel
          have hsz := hbel.size
          have hfl := ffP_len n L i
          by_cases hlt : i < L.length
          · obtain ⟨b, c1, hv, hlb⟩ : ∃ b c1, Value.slice ao L.length cap = .slice (some ⟨b, 0, none⟩) L.length c1 ∧ b < w1.heap.size := by
              rcases H.out.shape with ⟨h, _⟩ | ⟨_, g, cp, h, _, hl, _⟩
              · rw [h] at hlt
                simp at hlt
              · exact ⟨g, cp, h, hl⟩
            cases hv
            obtain ⟨x1, x2, x3⟩ := OwnF.cells (H.out.below hbel) i hlt
            have HZ := HM.out _ (List.getElem_mem hlt)
            rcases hrp : rpR L[i].a L[i].b L[i].c n with ⟨px, py, ok⟩
            have hok : okN n L[i] = ok := by unfold okN; rw [hrp, okOf_is]
            have HS := Lib.hid (ffP_step hlt hok)
            have RB := Lib.hid (by have h := representBy_any L[i].a L[i].b L[i].c n · HZ.1 (by rw [HZ.2]; exact HG.out) hnn; rw [hrp] at h; exact h)
            clear hrp hok HZ
            obtain ⟨z, hz⟩ : ∃ z, L[i] = z := ⟨_, rfl⟩
            rw [hz] at x1 x2 x3 HS RB
            clear hz
            obtain ⟨za, zb, zc⟩ := z
            dsimp only at x1 x2 x3 RB
            have i0 : (0 : Int) ≤ (i : Int) := by omega
            have i1 : (i : Int) < (L.length : Int) := by omega
            go_wp2_with fail
            refine (RB.out _).mono ?_
            rintro e w2 ⟨rfl, hb2⟩
            have hbel2 : Below w1.heap.size w1 w2 := (Below.alloc hbel (by omega) _).trans (hb2.mono (by simp; omega))
            have HO2 := Lib.hid ((own_al HO.out _).below hb2)
            have hsz2 := hbel2.size
            have hx2 : heapAt w2 wr.heap.size = some (.cells #[.int .i64 za, .int .i64 zb, .int .i64 zc] 25 (0, 0)) := (hb2.block _ (by simp)).trans (heapAt_new wr _)
            obtain ⟨p0, p1, p2, p3, p4, p5, p6⟩ := blk3 hx2
            clear hb2 HO
            cases ok
            · go_wp2_with fail
              go_roundg (gk - 1)
              case measure => omega
              case rel => exact ⟨i + 1, by omega, by go_num, Lib.hid (by rw [HS.out]; simpa using HO2.out), hbel2⟩
            · obtain ⟨P, hP⟩ : ∃ P, ffP n L i = P := ⟨_, rfl⟩
              rw [hP] at HO2 hfl
              have HP := Lib.hid hP
              clear hP
              obtain ⟨hi, hz0', hz1, hz2⟩ := HI0.out
              go_wp2_with (at_builtin; refine wpList_append_own _ rfl _ _ 40 rfl w1.heap.size 25 i0' (.agg #[.int .i64 0, .int .i64 0, .int .i64 0]) 3 24 Tryd.underlying40 hi hz0' hz1 hz2 rfl (by decide) _ _ _ rfl (World.ownsRow.alloc HO2.out _) ⟨w2.heap.size, 0, none⟩ 1 1 [.int .i64 za, .int .i64 zb, .int .i64 zc] rfl rfl ?c1 ?c2 ?c3 ?c4 ?c5 ?_)
              case c1 => exact new_cells _ _ _ _ rfl
              case c2 => exact three_cells _ _ _
              case c3 => unfold maxLen; omega
              case c4 => omega
              case c5 => simp; omega
              intro v' w3 hown' hgrow hnn'
              have HN3 := Lib.hid (app_one (w := w2) (v := v') (f := ⟨za, zb, zc⟩) hown')
              have hb3 : Below w1.heap.size w1 w3 := Below.grown (Below.alloc hbel2 (by omega) _) hgrow (by simp; omega) (fun k hk => (HO2.out.lt k hk).1)
              clear hown' hgrow hnn' hi hz0' hz1 hz2
              go_wp2_with fail
              go_roundg (gk - 1)
              case measure => omega
              case rel => exact ⟨i + 1, by omega, by go_num, Lib.hid (by rw [HS.out, HP.out]; simpa using HN3.out), hb3⟩
          · have EQ : Hid (i = L.length) := Lib.hid (by omega)
            go_wp2_with fail
            go_ret2
            unfold RetFC
            rw [HC.out, ← HA.out, ← EQ.out]
            exact ⟨_, rfl, HO.out.mono (by omega), (by repeat' (first | (with_reducible exact Below.refl _ _) | (with_reducible assumption) | (with_reducible refine Below.setCell ?_ ?_ _) | (with_reducible refine Below.alloc ?_ ?_ _) | (with_reducible refine Below.drew ?_) | (with_reducible refine below_drewN ?_ _) | (with_reducible refine Below.trans ?_ (Below.mono (by with_reducible assumption) ?_)) | go_size | (simp at *; omega)))⟩
theorem sFormsFor_any (d n : Int) (w : World) :
    Calls Tryd.prog 19 #[.int .i64 d, .int .i64 n] w (RetFC w (ffR d n) (cffR d n)) := by
  cases hn : inR n 1 10000
  · have HC : Hid (cffR d n = 2) := Lib.hid (by simp [cffR, hn])
    have HA : Hid (ffR d n = []) := Lib.hid (by unfold ffR; rw [if_neg (by rw [HC.out]; decide)])
    have CX := Lib.hid (l11Code_any d)
    generalize codeF d = C at *
    go_enter Tryd.func19, Tryd.ntmps19
    go_wp2_with (first | (go_at_call 42; refine (in_any _ _ _ _).mono ?_; rintro e w1 ⟨rfl, rfl⟩) | (go_at_call 46; refine (CX.out _).mono ?_; rintro e w1 ⟨rfl, rfl⟩))
    go_ret2
    unfold RetFC
    rw [HA.out, HC.out]
    exact ⟨_, rfl, Own.nil _ _ _ _ _, Below.refl _ _⟩
  · cases hi : inR d (-2000) 2000
    · have HC : Hid (cffR d n = 2) := Lib.hid (by simp [cffR, hn, hi])
      have HA : Hid (ffR d n = []) := Lib.hid (by unfold ffR; rw [if_neg (by rw [HC.out]; decide)])
      have HK : codeF d = 2 := by simp [codeF, hi]
      have CX := Lib.hid (by have h := l11Code_any d; rw [HK] at h; exact h)
      clear HK hi
      go_enter Tryd.func19, Tryd.ntmps19
      go_wp2_with (first | (go_at_call 42; refine (in_any _ _ _ _).mono ?_; rintro e w1 ⟨rfl, rfl⟩) | (go_at_call 46; refine (CX.out _).mono ?_; rintro e w1 ⟨rfl, rfl⟩))
      go_ret2
      unfold RetFC
      rw [HA.out, HC.out]
      exact ⟨_, rfl, Own.nil _ _ _ _ _, Below.refl _ _⟩
    · have hd := inR_iff.1 hi
      have hnn := inR_iff.1 hn
      by_cases hneg : d < 0
      · have hk := codeF_neg hi hneg n hn
        by_cases hz : cffR d n = 0
        · have CX := Lib.hid (by have h := l11Code_any d; rw [hk, hz] at h; exact h)
          have HC : Hid (cffR d n = 0) := Lib.hid (by exact hz)
          have HG := Lib.hid (cff_zero HC.out).2.2.1
          have HA : Hid (ffP n (allF d) (allF d).length = ffR d n) := Lib.hid (by unfold ffR; rw [if_pos HC.out])
          have HM : Hid (∀ z ∈ allF d, vF z.a z.b z.c = true ∧ dF z.a z.b z.c = d) := Lib.hid (fun z hz => mem_all hz)
          have hlen := all_len hd
          clear hi hz hk
          have HQ := Lib.hid (l11All_any d · hd)
          generalize allF d = L at *
          generalize ffR d n = R at *
          obtain ⟨i0', hi, hz0', hz1, hz2⟩ := info_parts infoF
          have HI0 := Lib.hid (And.intro hi (And.intro hz0' (And.intro hz1 hz2)))
          clear hi hz0' hz1 hz2
          go_enter Tryd.func19, Tryd.ntmps19
          go_wp2_with (first | (go_at_call 42; refine (in_any _ _ _ _).mono ?_; rintro e w1 ⟨rfl, rfl⟩) | (go_at_call 46; refine (CX.out _).mono ?_; rintro e w1 ⟨rfl, rfl⟩))
          refine (HQ.out _).mono ?_
          intro e w1 hr
          unfold RetF at hr
          obtain ⟨V, rfl, hV, hb1⟩ := hr
          have H := Lib.hid hV
          have hbel1 : Below w.heap.size w w1 := (by repeat' (first | (with_reducible exact Below.refl _ _) | (with_reducible assumption) | (with_reducible refine Below.setCell ?_ ?_ _) | (with_reducible refine Below.alloc ?_ ?_ _) | (with_reducible refine Below.drew ?_) | (with_reducible refine below_drewN ?_ _) | (with_reducible refine Below.trans ?_ (Below.mono (by with_reducible assumption) ?_)) | go_size | (simp at *; omega)))
          obtain ⟨ao, cap, hv⟩ := hV.len
          clear hV
          subst hv
          have hsz1 := hbel1.size
          clear hb1
          go_wp2_with fail
          go_loopg [8, 9] L.length (fun k v u wr => ∃ i : Nat, i + k = L.length ∧ u = .int .i64 i ∧ Hid (OwnF wr w1.heap.size v (ffP n L i)) ∧ Below w1.heap.size w1 wr)
          case atStart => exact ⟨0, by omega, rfl, Lib.hid (by rw [ffP_zero]; exact Own.empty _ _ _ _ _ (by omega)), Below.alloc (Below.refl _ _) (by omega) _⟩
          case round =>
            obtain ⟨i, hik, rfl, HO, hbel⟩ := hrel
            have hsz := hbel.size
            have hfl := ffP_len n L i
            by_cases hlt : i < L.length
            · obtain ⟨b, c1, hv, hlb⟩ : ∃ b c1, Value.slice ao L.length cap = .slice (some ⟨b, 0, none⟩) L.length c1 ∧ b < w1.heap.size := by
                rcases H.out.shape with ⟨h, _⟩ | ⟨_, g, cp, h, _, hl, _⟩
                · rw [h] at hlt
                  simp at hlt
                · exact ⟨g, cp, h, hl⟩
              cases hv
              obtain ⟨x1, x2, x3⟩ := OwnF.cells (H.out.below hbel) i hlt
              have HZ := HM.out _ (List.getElem_mem hlt)
              rcases hrp : rpR L[i].a L[i].b L[i].c n with ⟨px, py, ok⟩
              have hok : okN n L[i] = ok := by unfold okN; rw [hrp, okOf_is]
              have HS := Lib.hid (ffP_step hlt hok)
              have RB := Lib.hid (by have h := sRepresentBy_any L[i].a L[i].b L[i].c n; rw [rep_is HZ.1 (by rw [HZ.2]; exact HG.out) hnn hrp] at h; exact h)
              clear hrp hok HZ
              obtain ⟨z, hz⟩ : ∃ z, L[i] = z := ⟨_, rfl⟩
              rw [hz] at x1 x2 x3 HS RB
              have HZE := Lib.hid hz
              clear hz
              obtain ⟨za, zb, zc⟩ := z
              dsimp only at x1 x2 x3 RB
              have i0 : (0 : Int) ≤ (i : Int) := by omega
              have i1 : (i : Int) < (L.length : Int) := by omega
              go_wp2_with fail
              refine (RB.out _).mono ?_
              rintro e w2 ⟨rfl, hb2⟩
              have hbel2 : Below w1.heap.size w1 w2 := hbel.trans (hb2.mono (by omega))
              have HO2 := Lib.hid (HO.out.below hb2)
              have hsz2 := hbel2.size
              obtain ⟨y1, y2, y3⟩ := OwnF.cells (H.out.below hbel2) i hlt
              rw [HZE.out] at y1 y2 y3
              dsimp only at y1 y2 y3
              clear x1 x2 x3
              clear hb2 HO
              cases ok
              · go_wp2_with fail
                go_roundg (gk - 1)
                case measure => omega
                case rel => exact ⟨i + 1, by omega, by go_num, Lib.hid (by rw [HS.out]; simpa using HO2.out), hbel2⟩
              · obtain ⟨P, hP⟩ : ∃ P, ffP n L i = P := ⟨_, rfl⟩
                rw [hP] at HO2 hfl
                have HP := Lib.hid hP
                clear hP
                obtain ⟨hi, hz0', hz1, hz2⟩ := HI0.out
                go_wp2_with (at_builtin; refine wpList_append_own _ rfl _ _ 40 rfl w1.heap.size 25 i0' (.agg #[.int .i64 0, .int .i64 0, .int .i64 0]) 3 24 Tryd.underlying40 hi hz0' hz1 hz2 rfl (by decide) _ _ _ rfl (World.ownsRow.alloc HO2.out _) ⟨w2.heap.size, 0, none⟩ 1 1 [.int .i64 za, .int .i64 zb, .int .i64 zc] rfl rfl ?c1 ?c2 ?c3 ?c4 ?c5 ?_)
                case c1 => exact new_cells _ _ _ _ rfl
                case c2 => exact three_cells _ _ _
                case c3 => unfold maxLen; omega
                case c4 => omega
                case c5 => simp; omega
                intro v' w3 hown' hgrow hnn'
                have HN3 := Lib.hid (app_one (w := w2) (v := v') (f := ⟨za, zb, zc⟩) hown')
                have hb3 : Below w1.heap.size w1 w3 := Below.grown (Below.alloc hbel2 (by omega) _) hgrow (by simp; omega) (fun k hk => (HO2.out.lt k hk).1)
                clear hown' hgrow hnn' hi hz0' hz1 hz2
                go_wp2_with fail
                go_roundg (gk - 1)
                case measure => omega
                case rel => exact ⟨i + 1, by omega, by go_num, Lib.hid (by rw [HS.out, HP.out]; simpa using HN3.out), hb3⟩
            · have EQ : Hid (i = L.length) := Lib.hid (by omega)
              go_wp2_with fail
              go_ret2
              unfold RetFC
              rw [HC.out, ← HA.out, ← EQ.out]
              exact ⟨_, rfl, HO.out.mono (by omega), (by repeat' (first | (with_reducible exact Below.refl _ _) | (with_reducible assumption) | (with_reducible refine Below.setCell ?_ ?_ _) | (with_reducible refine Below.alloc ?_ ?_ _) | (with_reducible refine Below.drew ?_) | (with_reducible refine below_drewN ?_ _) | (with_reducible refine Below.trans ?_ (Below.mono (by with_reducible assumption) ?_)) | go_size | (simp at *; omega)))⟩
        · have HC : Hid (cffR d n = 6) := Lib.hid (cff_six hn hi hz)
          have HA : Hid (ffR d n = []) := Lib.hid (by unfold ffR; rw [if_neg (by rw [HC.out]; decide)])
          have CX := Lib.hid (by have h := l11Code_any d; rw [hk, HC.out] at h; exact h)
          clear hk hz hi
          go_enter Tryd.func19, Tryd.ntmps19
          go_wp2_with (first | (go_at_call 42; refine (in_any _ _ _ _).mono ?_; rintro e w1 ⟨rfl, rfl⟩) | (go_at_call 46; refine (CX.out _).mono ?_; rintro e w1 ⟨rfl, rfl⟩))
          go_ret2
          unfold RetFC
          rw [HA.out, HC.out]
          exact ⟨_, rfl, Own.nil _ _ _ _ _, Below.refl _ _⟩
      · obtain ⟨h6, hk⟩ := codeF_pos hi hneg n hn
        have HC := Lib.hid h6
        have HA : Hid (ffR d n = []) := Lib.hid (by unfold ffR; rw [if_neg (by rw [HC.out]; decide)])
        clear h6
        rcases hk with hk | ⟨hk, hp⟩
        · have CX := Lib.hid (by have h := l11Code_any d; rw [hk] at h; exact h)
          clear hk hi
          go_enter Tryd.func19, Tryd.ntmps19
          go_wp2_with (first | (go_at_call 42; refine (in_any _ _ _ _).mono ?_; rintro e w1 ⟨rfl, rfl⟩) | (go_at_call 46; refine (CX.out _).mono ?_; rintro e w1 ⟨rfl, rfl⟩))
          go_ret2
          unfold RetFC
          rw [HA.out, HC.out]
          exact ⟨_, rfl, Own.nil _ _ _ _ _, Below.refl _ _⟩
        · have CX := Lib.hid (by have h := l11Code_any d; rw [hk] at h; exact h)
          clear hk hi
          go_enter Tryd.func19, Tryd.ntmps19
          go_wp2_with (first | (go_at_call 42; refine (in_any _ _ _ _).mono ?_; rintro e w1 ⟨rfl, rfl⟩) | (go_at_call 46; refine (CX.out _).mono ?_; rintro e w1 ⟨rfl, rfl⟩))
          go_ret2
          unfold RetFC
          rw [HA.out, HC.out]
          exact ⟨_, rfl, Own.nil _ _ _ _ _, Below.refl _ _⟩
end Go.Proofs.YtodbmnbahldabaaDoor
