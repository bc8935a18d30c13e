/- The number of classes of forms with a discriminant: the program. -/
import Derived.Test.YtolbihoeheogkaaDoorKeyF
import Derived.Test.YtolbihoeheogkaaDoorOrbC
import Derived.Test.YtolbihoeheogkaaDoorFmsJ
namespace Go.Proofs.YtolbihoeheogkaaDoor
open Go.ChangeShapes Go.WideShapes Go.ChangeAt Go.RowKit
open Go.Maps
set_option linter.unusedVariables false
set_option maxHeartbeats 4000000
set_option maxRecDepth 20000
theorem allF_len {d : Int} (hd : -2000 ≤ d ∧ d ≤ 2000) : (allF d).length ≤ 10000 := by
  have hm := rt44 hd
  have h1 := outF_len d (rt (ab d)) (2 * rt (ab d) + 1).toNat
  have h3 : (2 * rt (ab d) + 1).toNat * (2 * rt (ab d) + 1).toNat ≤ 89 * 89 := Nat.mul_le_mul (by omega) (by omega)
  unfold allF
  omega
/-- The cycle of a reduced form of a discriminant above nought. -/
theorem pd_cycle {d : Int} {f : Fm} (h0 : 0 < d) (h2 : d ≤ 2000) (h : Pd d f) : ∃ C : List Fm, fcR f.a f.b f.c = (C, 0) ∧ 1 ≤ C.length ∧ C.length ≤ 1000 ∧ (∀ y ∈ C, vFm y = true) ∧ (∀ x, C.any (fun y => eqFm y x) = inC f x) := by
  obtain ⟨k, k1, k2, k3, k4, k5⟩ := cy_all h0 h2 h
  have hl := iL_len f k
  refine ⟨iL f k, ?_, by omega, by omega, ?_, fun x => by unfold inC; rw [k3]; rfl⟩
  · unfold fcR
    have hv : vF f.a f.b f.c = true := h.1
    rw [if_pos hv, rdR_done h.2.1, if_pos rfl]
    show olF (cyR f) = _
    rw [k3]
    rfl
  · intro y hy
    obtain ⟨j, -, rfl⟩ := mem_iL.1 hy
    exact (pd_it h0 h2 h j).1
theorem any_cons_take {C : List Fm} {j : Nat} (hj : j < C.length) {M : List Fm} {p : Fm → Bool} (h : ∀ x, M.any (fun y => eqFm y x) = (p x || (C.take j).any (fun y => eqFm y x))) (x : Fm) :
    (C[j] :: M).any (fun y => eqFm y x) = (p x || (C.take (j + 1)).any (fun y => eqFm y x)) := by
  rw [List.any_cons, h x, List.take_succ_eq_append_getElem hj, List.any_append]
  simp only [List.any_cons, List.any_nil, Bool.or_false]
  cases eqFm C[j] x <;> cases p x <;> simp
theorem sizeF_any (ao : Option Addr) (n cap : Nat) (w : World) (h : n ≤ 1000000) :
    Calls Tryd.prog 24 #[.slice ao n cap] w fun e w' => e = .returned (.int .i64 n) ∧ w = w' := by
  have hn : (n : Int) ≤ 1000000 := by omega
  go_enter Tryd.func24, Tryd.ntmps24
  go_wp2
  go_returns
  exact ⟨rfl, rfl⟩
theorem iClassNumber_any (d : Int) (w : World) :
    Calls Tryd.prog 12 #[.int .i64 d] w fun e w' => e = .returned (.tuple #[.int .i64 (clR d).1, .int .i64 (clR d).2]) ∧ Below w.heap.size w w' := by
  have CX := Lib.hid (checkDisc_any d)
  by_cases hc : codeF d = 0
  · have hd := codeF_zero hc
    have hd0 := (codeF_nsq hc).1
    have hlen := allF_len hd
    rw [hc] at CX
    have HQ := Lib.hid (reducedForms_any d · hd)
    by_cases hneg : d < 0
    · have HF : Hid (clR d = (((allF d).length : Int), 0)) := Lib.hid (by unfold clR; rw [if_pos hc, if_pos hneg])
      generalize allF d = L at *
      go_enter Tryd.func12, Tryd.ntmps12
      go_wp2_with (go_at_call 22; refine (CX.out _).mono ?_; rintro e w1 ⟨rfl, rfl⟩)
      refine (HQ.out _).mono ?_
      intro e w1 hr
      unfold RetF at hr
      obtain ⟨V, rfl, hV, hb1⟩ := hr
      obtain ⟨ao, cap, hv⟩ := hV.len
      subst hv
      go_wp2_with (go_at_call 24; refine (sizeF_any _ _ _ _ (by omega)).mono ?_; rintro e w1 ⟨rfl, rfl⟩)
      go_ret2
      exact ⟨by rw [HF.out] <;> rfl, hb1⟩
    · have h0 : 0 < d := by omega
      have HF : Hid (clR d = ((clF (allF d) (allF d).length : Int), 0)) := Lib.hid (by unfold clR; rw [if_pos hc, if_neg hneg])
      have HP : Hid (∀ z ∈ allF d, Pd d z) := Lib.hid (fun z hz => all_mem hz)
      have HO1 : Hid (∀ i, (hi : i < (allF d).length) → metF (allF d) i (allF d)[i] = true → ∀ x, metF (allF d) (i + 1) x = metF (allF d) i x) := Lib.hid (fun i hi h x => met_old h0 hd.2 hi h x)
      clear hc
      generalize allF d = L at *
      generalize clR d = R at *
      go_enter Tryd.func12, Tryd.ntmps12
      go_wp2_with (go_at_call 22; refine (CX.out _).mono ?_; rintro e w1 ⟨rfl, rfl⟩)
      refine (HQ.out _).mono ?_
      intro e w1 hr
      unfold RetF at hr
      obtain ⟨V, rfl, hV, hb1⟩ := hr
      have H := Lib.hid hV
      have hbel1 : Below w.heap.size w w1 := (by repeat' (first | (with_reducible exact Below.refl _ _) | (with_reducible assumption) | (with_reducible refine Below.setCell ?_ ?_ _) | (with_reducible refine Below.alloc ?_ ?_ _) | (with_reducible refine Below.drew ?_) | (with_reducible refine below_drewN ?_ _) | (with_reducible refine Below.trans ?_ (Below.mono (by with_reducible assumption) ?_)) | go_size | (simp at *; omega)))
      obtain ⟨ao, cap, hv⟩ := hV.len
      clear hV
      subst hv
      have hsz1 := hbel1.size
      clear hb1
      have hmm := @run_makeMap Tryd.prog
      go_wp2_with fail
      go_loopg [6, 28] L.length (fun k u v wr => ∃ i : Nat, i + k = L.length ∧ v = .int .i64 i ∧ u = .int .i64 (clF L i) ∧ (∃ (M : List Fm) (n : Nat), Hid (wr.ownsMap Tryd.prog 25 (plainElem Tryd.prog 4) w1.heap.size n (mpD M)) ∧ n ≤ i * 1000 ∧ Hid (∀ y ∈ M, vFm y = true) ∧ Hid (∀ x, M.any (fun y => eqFm y x) = metF L i x)) ∧ w1.heap.size < wr.heap.size ∧ Below w1.heap.size w1 wr)
      case atStart => exact ⟨0, by omega, rfl, rfl, ⟨[], 0, Lib.hid (by have h := World.ownsMap_made (H := Unit) w1 Tryd.prog 25 (plainElem Tryd.prog 4); exact h), by omega, Lib.hid (by simp), Lib.hid (fun x => by rw [metF_zero]; rfl)⟩, by simp, (by repeat' (first | (with_reducible exact Below.refl _ _) | (with_reducible assumption) | (with_reducible refine Below.setCell ?_ ?_ _) | (with_reducible refine Below.alloc ?_ ?_ _) | (with_reducible refine Below.drew ?_) | (with_reducible refine below_drewN ?_ _) | (with_reducible refine Below.trans ?_ (Below.mono (by with_reducible assumption) ?_)) | go_size | (simp at *; omega)))⟩
      case round =>
        obtain ⟨i, hik, rfl, rfl, ⟨M, n, HM, hn, HV, HX⟩, hszm, hbel⟩ := hrel
        have hsz := hbel.size
        have hcl := clF_le L i
        by_cases hlt : i < L.length
        · obtain ⟨b, c1, hv, hlb⟩ : ∃ b c1, Value.slice ao L.length cap = .slice (some ⟨b, 0, none⟩) L.length c1 ∧ b < w1.heap.size := by
            rcases H.out.shape with ⟨h, _⟩ | ⟨_, g, cp, h, _, hl, _⟩
            · rw [h] at hlt
              simp at hlt
            · exact ⟨g, cp, h, hl⟩
          cases hv
          obtain ⟨x1, x2, x3⟩ := OwnF.cells (H.out.below hbel) i hlt
          have HZ := HP.out _ (List.getElem_mem hlt)
          have HK := Lib.hid (kF_spec HZ.1)
          have hat := mpD_at L[i] HZ.1 M HV.out
          rw [HX.out] at hat
          have i0 : (0 : Int) ≤ (i : Int) := by omega
          have i1 : (i : Int) < (L.length : Int) := by omega
          cases hm : metF L i L[i]
          · rw [hm] at hat
            have HAt := Lib.hid hat
            have E1 := Lib.hid (cl_new hlt hm)
            obtain ⟨C, hC, hC1, hC2, hC3, hC4⟩ := pd_cycle h0 hd.2 HZ
            have HC3 := Lib.hid hC3
            have HS : Hid (∀ x, (metF L i x || C.any (fun y => eqFm y x)) = metF L (i + 1) x) := Lib.hid (fun x => by rw [metF_succ hlt, hC4])
            have FC := Lib.hid (by have h := iFormCycle_any L[i].a L[i].b L[i].c; rw [hC] at h; exact h)
            clear hat hm hC hC3 hC4 HZ
            obtain ⟨z, hz⟩ : ∃ z, L[i] = z := ⟨_, rfl⟩
            rw [hz] at x1 x2 x3 HK HAt FC
            clear hz
            obtain ⟨za, zb, zc⟩ := z
            dsimp only at x1 x2 x3 FC HK
            go_wp2_with (at_lookup; refine wpList_lookup_own_bool _ rfl _ _ 49 rfl 25 4 lawF Tryd.underlying49 Tryd.underlying4 (zeroBoolF _) w1.heap.size n _ rfl (HM.out.alloc _) _ _ rfl HK.out _ HAt.out ?_)
            refine (FC.out _).mono ?_
            intro e w2 hr
            unfold RetFC at hr
            obtain ⟨V2, rfl, hV2, hb2⟩ := hr
            obtain ⟨b2, c2, hv2, hlb2⟩ : ∃ b2 c2, V2 = .slice (some ⟨b2, 0, none⟩) C.length c2 ∧ (wr.heap.size + 1 ≤ b2 ∧ b2 < w2.heap.size) := by
              rcases hV2.shape with ⟨h, _⟩ | ⟨_, g, cp, h, hg, hl, _⟩
              · rw [h] at hC1
                simp at hC1
              · exact ⟨g, cp, h, by simpa using hg, hl⟩
            subst hv2
            have HO2 := Lib.hid hV2
            have HM2 := Lib.hid ((HM.out.alloc (.cells #[.int .i64 za, .int .i64 zb, .int .i64 zc] 25)).kept (grown_of_below hb2) (by simp))
            have hbel2 : Below w1.heap.size w1 w2 := (Below.alloc hbel (by omega) _).trans (hb2.mono (by simp; omega))
            have hsz2 := hbel2.size
            have hszm2 : w1.heap.size < w2.heap.size := by omega
            clear hV2 hb2 x1 x2 x3 HM
            obtain ⟨k1, rfl⟩ : ∃ k1, gk = k1 + 1 := ⟨gk - 1, by omega⟩
            go_wp2_with fail
            go_loopg [44] C.length (fun k u wr => ∃ j : Nat, j + k = C.length ∧ u = .int .i64 j ∧ (∃ (M : List Fm) (n : Nat), Hid (wr.ownsMap Tryd.prog 25 (plainElem Tryd.prog 4) w1.heap.size n (mpD M)) ∧ n ≤ i * 1000 + j ∧ Hid (∀ y ∈ M, vFm y = true) ∧ Hid (∀ x, M.any (fun y => eqFm y x) = (metF L i x || (C.take j).any (fun y => eqFm y x)))) ∧ Hid (OwnF wr (w1.heap.size + 1) (.slice (some ⟨b2, 0, none⟩) C.length c2) C) ∧ w1.heap.size < wr.heap.size ∧ Below w1.heap.size w1 wr)
            case atStart => exact ⟨0, by omega, rfl, ⟨M, n, HM2, by omega, HV, Lib.hid (fun x => by rw [HX.out]; simp)⟩, Lib.hid (HO2.out.mono (by simp; omega)), hszm2, hbel2⟩
            case round =>
              obtain ⟨j, hjk, rfl, ⟨M3, n3, HM3, hn3, HV3, HX3⟩, HO3, hszm3, hbel3⟩ := hrel
              have hsz3 := hbel3.size
              by_cases hjl : j < C.length
              · obtain ⟨y1, y2, y3⟩ := OwnF.cells HO3.out j hjl
                have hvy := HC3.out _ (List.getElem_mem hjl)
                have HKy := Lib.hid (kF_spec hvy)
                have HX4 := Lib.hid (any_cons_take hjl HX3.out)
                have HV4 : Hid (∀ y ∈ C[j] :: M3, vFm y = true) := Lib.hid (fun y hy => by
                  rcases List.mem_cons.1 hy with h | h
                  · rw [h]; exact hvy
                  · exact HV3.out y h)
                clear hvy
                obtain ⟨y, hy⟩ : ∃ y, C[j] = y := ⟨_, rfl⟩
                rw [hy] at y1 y2 y3 HKy HX4 HV4
                clear hy
                obtain ⟨ya, yb, yc⟩ := y
                dsimp only at y1 y2 y3 HKy
                have j0 : (0 : Int) ≤ (j : Int) := by omega
                have j1 : (j : Int) < (C.length : Int) := by omega
                have hbo := hlb2
                go_wp2_with (at_mapUpdate; refine wpList_mapUpdate_own _ rfl _ _ _ 49 rfl 25 4 lawF Tryd.underlying49 _ w1.heap.size n3 _ rfl (HM3.out.alloc _) (by unfold maxLen; omega) _ _ _ rfl rfl HKy.out _ [] (plainElem_bool Tryd.underlying4 true) ?_)
                intro w4 hown4 hgrow4
                have HM4 := Lib.hid hown4
                have HO4 : Hid (OwnF w4 (w1.heap.size + 1) (.slice (some ⟨b2, 0, none⟩) C.length c2) C) := Lib.hid ((own_alloc HO3.out _).kept hgrow4 (.inr (own_ne HO3.out (.inl (by omega)))))
                have hbel4 : Below w1.heap.size w1 w4 := Below.grown (Below.alloc hbel3 (by omega) _) hgrow4 (by simp; omega) (fun k hk => by cases hk; omega)
                have hsz4 : w1.heap.size < w4.heap.size := by have := hgrow4.size; simp at this; omega
                clear hown4 hgrow4
                go_wp2_with fail
                go_roundg (gk - 1)
                case measure => omega
                case rel => exact ⟨j + 1, by omega, by go_num, ⟨⟨ya, yb, yc⟩ :: M3, n3 + 1, HM4, by omega, HV4, HX4⟩, HO4, hsz4, hbel4⟩
              · have ej : j = C.length := by omega
                subst ej
                go_wp2_with fail
                go_roundg k1
                case measure => omega
                case rel => exact ⟨i + 1, by omega, by go_num, by rw [E1.out]; go_num, ⟨M3, n3, HM3, by omega, HV3, Lib.hid (fun x => by rw [HX3.out, List.take_length, HS.out])⟩, hszm3, hbel3⟩
          · rw [hm] at hat
            have HAt := Lib.hid hat
            have E1 := Lib.hid (cl_old hlt hm)
            have HS := Lib.hid (HO1.out i hlt hm)
            clear hat hm HZ
            obtain ⟨z, hz⟩ : ∃ z, L[i] = z := ⟨_, rfl⟩
            rw [hz] at x1 x2 x3 HK HAt
            clear hz
            obtain ⟨za, zb, zc⟩ := z
            dsimp only at x1 x2 x3 HK
            have HM2 := Lib.hid (HM.out.alloc (.cells #[.int .i64 za, .int .i64 zb, .int .i64 zc] 25))
            go_wp2_with (at_lookup; refine wpList_lookup_own_bool _ rfl _ _ 49 rfl 25 4 lawF Tryd.underlying49 Tryd.underlying4 (zeroBoolF _) w1.heap.size n _ rfl (HM.out.alloc _) _ _ rfl HK.out _ HAt.out ?_)
            go_roundg (gk - 1)
            case measure => omega
            case rel => exact ⟨i + 1, by omega, by go_num, by rw [E1.out], ⟨M, n, HM2, by omega, HV, Lib.hid (fun x => by rw [HX.out, HS.out])⟩, by simp; omega, (by repeat' (first | (with_reducible exact Below.refl _ _) | (with_reducible assumption) | (with_reducible refine Below.setCell ?_ ?_ _) | (with_reducible refine Below.alloc ?_ ?_ _) | (with_reducible refine Below.drew ?_) | (with_reducible refine below_drewN ?_ _) | (with_reducible refine Below.trans ?_ (Below.mono (by with_reducible assumption) ?_)) | go_size | (simp at *; omega)))⟩
        · have EQ : Hid (i = L.length) := Lib.hid (by omega)
          go_wp2_with fail
          go_ret2
          exact ⟨by rw [HF.out, ← EQ.out] <;> rfl, (by repeat' (first | (with_reducible exact Below.refl _ _) | (with_reducible assumption) | (with_reducible refine Below.setCell ?_ ?_ _) | (with_reducible refine Below.alloc ?_ ?_ _) | (with_reducible refine Below.drew ?_) | (with_reducible refine below_drewN ?_ _) | (with_reducible refine Below.trans ?_ (Below.mono (by with_reducible assumption) ?_)) | go_size | (simp at *; omega)))⟩
  · have HF : Hid (clR d = (0, codeF d)) := Lib.hid (by unfold clR; rw [if_neg hc])
    have hcb : (codeF d != 0) = true := by simp [hc]
    generalize clR d = R at *
    generalize codeF d = C at *
    go_enter Tryd.func12, Tryd.ntmps12
    go_wp2_with (go_at_call 22; refine (CX.out _).mono ?_; rintro e w1 ⟨rfl, rfl⟩)
    go_ret2
    exact ⟨by rw [HF.out] <;> rfl, (by repeat' (first | (with_reducible exact Below.refl _ _) | (with_reducible assumption) | (with_reducible refine Below.setCell ?_ ?_ _) | (with_reducible refine Below.alloc ?_ ?_ _) | (with_reducible refine Below.drew ?_) | (with_reducible refine below_drewN ?_ _) | (with_reducible refine Below.trans ?_ (Below.mono (by with_reducible assumption) ?_)) | go_size | (simp at *; omega)))⟩
end Go.Proofs.YtolbihoeheogkaaDoor
