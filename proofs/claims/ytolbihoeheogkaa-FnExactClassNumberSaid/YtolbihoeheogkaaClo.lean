/- The number of classes of forms with a discriminant: the reference, and the law. -/
import Derived.Test.YtolbihoeheogkaaCln
namespace Go.Proofs.Ytolbihoeheogkaa
open Go.ChangeShapes Go.WideShapes Go.ChangeAt Go.RowKit
set_option linter.unusedVariables false
set_option maxHeartbeats 4000000
set_option maxRecDepth 20000
def gB (b : Bool) : List Value := [.bool b]
theorem gB_len (b : Bool) : (gB b).length = 1 := rfl
abbrev OwnB (w : World) (B : Nat) (v : Value) (L : List Bool) : Prop := Own w B 4 1 gB v L
theorem infoB : (Try.prog.info? 4).map (fun i => (i.zero, i.size, i.bytes)) = some (some (.bool false), 1, 1) := by kernel_rfl
theorem OwnB.cells {w : World} {B b n cap : Nat} {L : List Bool} (h : OwnB w B (.slice (some ⟨b, 0, none⟩) n cap) L) (hn : L.length = n) {i : Nat} (hi : i < n) : w.cell? ⟨b, i, none⟩ = some (.bool (L.getD i false)) ∧ w.frozen? ⟨b, i, none⟩ = false := by
  subst hn
  have h1 := Own.cell gB_len h i 0 hi (by omega)
  refine ⟨?_, Own.free h _⟩
  simp [gB] at h1
  rw [h1]
  simp [List.getD, hi]
theorem rows_setB (L : List Bool) : ∀ (i : Nat) (x : Bool), i < L.length → (rowsOf gB L).set i (.bool x) = rowsOf gB (L.set i x) := by
  induction L with
  | nil => intro i x h; simp at h
  | cons f L ih =>
    intro i x h
    have e : ∀ M : List Bool, ∀ f, rowsOf gB (f :: M) = .bool f :: rowsOf gB M := fun M f => by simp [rowsOf, gB]
    cases i with
    | zero => rw [List.set_cons_zero, e, e]; rfl
    | succ i => rw [List.set_cons_succ, e, e, ← ih i x (by simpa using h)]; rfl
theorem setB {w : World} {B b cap n : Nat} {L : List Bool} (h : OwnB w B (.slice (some ⟨b, 0, none⟩) n cap) L) (hn : L.length = n) {i : Nat} (hi : i < n) (x : Bool) :
    OwnB (w.setCell ⟨b, i, none⟩ (.bool x)) B (.slice (some ⟨b, 0, none⟩) n cap) (L.set i x) := by
  subst hn
  obtain ⟨h1, g1⟩ := World.ownsRow.stored h i (.bool x)
  unfold OwnB Own
  rw [List.length_set, ← rows_setB L i x hi]
  exact h1
theorem rows_rep (m : Nat) : rowsOf gB (List.replicate m false) = List.replicate m (.bool false) := by
  induction m with
  | zero => rfl
  | succ m ih =>
    rw [List.replicate_succ, List.replicate_succ, ← ih]
    simp [rowsOf, gB]
theorem ownB_made {w : World} {B b n cap : Nat} (h : w.ownsRow B 4 1 (.slice (some ⟨b, 0, none⟩) n cap) n (madeCells #[.bool false] n).toList) : OwnB w B (.slice (some ⟨b, 0, none⟩) n cap) (List.replicate n false) := by
  unfold OwnB Own
  rw [List.length_replicate]
  have e : (madeCells #[Value.bool false] n).toList = rowsOf gB (List.replicate n false) := (toList_madeCells_one _ _).trans (rows_rep n).symm
  rw [← e]
  exact h
theorem allocB {w : World} {B : Nat} {v : Value} {L : List Bool} (h : OwnB w B v L) (o : Obj) : OwnB (w.alloc o) B v L := World.ownsRow.alloc h o
theorem setOB {w : World} {B b n cap : Nat} {L : List Bool} (h : OwnB w B (.slice (some ⟨b, 0, none⟩) n cap) L) {b' i : Nat} (hne : b ≠ b') (u : Value) : OwnB (w.setCell ⟨b', i, none⟩ u) B (.slice (some ⟨b, 0, none⟩) n cap) L :=
  ownsRow_setCell_other h (by intro e; simp [Value.ownBlock] at e; exact hne e) u
theorem heapAt_setNew (w : World) (a : Addr) (u : Value) (o : Obj) : heapAt ((w.setCell a u).alloc o) w.heap.size = some o := by
  have h := heapAt_new (w.setCell a u) o
  have e : (w.setCell a u).heap.size = w.heap.size := by simp
  rwa [e] at h
/-- The marks of the forms of a list: on a cycle of a form before, or among the first t forms of a way. -/
def Mk (L : List Fm) (i : Nat) (f : Fm) (t : Nat) (S : List Bool) : Prop := S.length = L.length ∧ ∀ m, (hm : m < L.length) → S.getD m false = (metF L i L[m] || (iL f t).any (fun y => eqFm y L[m]))
theorem walk_no {d : Int} {f : Fm} (h0 : 0 < d) (h2 : d ≤ 2000) (h : Pd d f) {k : Nat} (hn : ∀ j, 1 ≤ j → j < k → itF f j ≠ f) {t : Nat} (ht : t < k) : (iL f t).any (fun y => eqFm y (itF f t)) = false := by
  rw [List.any_eq_false]
  intro y hy e
  obtain ⟨j, hj, rfl⟩ := mem_iL.1 hy
  have e1 := eqFm_iff.1 e
  exact hn (t - j) (by omega) (by omega) (it_cancel h0 h2 h j (t - j) (by rw [e1]; congr 1; omega))
theorem mk_set {d : Int} {i : Nat} {f : Fm} {t m : Nat} {S : List Bool} (h : Mk (allF d) i f t S) (hm : m < (allF d).length) (e : (allF d)[m] = itF f t) : Mk (allF d) i f (t + 1) (S.set m true) := by
  refine ⟨by rw [List.length_set]; exact h.1, fun m' hm' => ?_⟩
  have hs := h.2 m' hm'
  have e1 : (iL f (t + 1)).any (fun y => eqFm y (allF d)[m']) = ((iL f t).any (fun y => eqFm y (allF d)[m']) || eqFm (itF f t) (allF d)[m']) := by
    show (iL f t ++ [itF f t]).any _ = _
    rw [List.any_append]
    simp
  rw [e1]
  by_cases hmm : m' = m
  · subst hmm
    have : (S.set m' true).getD m' false = true := by simp [List.getD, h.1, hm]
    rw [this, e, eqFm_iff.2 rfl]
    simp
  · have : (S.set m true).getD m' false = S.getD m' false := by simp [List.getD, List.getElem?_set_ne (Ne.symm hmm)]
    rw [this, hs]
    cases hx : eqFm (itF f t) (allF d)[m']
    · simp
    · have h1 := eqFm_iff.1 hx
      rw [← e] at h1
      exact absurd (getElem_inj hm hm' h1).symm hmm
theorem mk_start {L : List Fm} {i : Nat} {f : Fm} {S : List Bool} (h : S.length = L.length ∧ ∀ m, (hm : m < L.length) → S.getD m false = metF L i L[m]) : Mk L i f 0 S :=
  ⟨h.1, fun m hm => by rw [h.2 m hm]; simp [iL]⟩
/-- All that the walk of the reference needs of one form that is on no cycle before. -/
theorem way_at {d : Int} (h0 : 0 < d) (h2 : d ≤ 2000) {i : Nat} (hi : i < (allF d).length) (hm : metF (allF d) i (allF d)[i] = false) :
    ∃ k, 1 ≤ k ∧ (∀ t, t ≤ k → ∃ m, ∃ hm : m < (allF d).length, (allF d)[m] = itF (allF d)[i] t ∧ fiF (itF (allF d)[i] t) (allF d) 0 = m ∧
      (∀ S, Mk (allF d) i (allF d)[i] t S → S.getD m false = decide (t = k))) ∧
    (∀ S, Mk (allF d) i (allF d)[i] k S → S.length = (allF d).length ∧ ∀ m, (hm : m < (allF d).length) → S.getD m false = metF (allF d) (i + 1) (allF d)[m]) := by
  have hp := all_mem (List.getElem_mem hi)
  obtain ⟨k, k1, k2, k3, k4, k5⟩ := cy_all h0 h2 hp
  refine ⟨k, k1, fun t ht => ?_, fun S hS => ⟨hS.1, fun m hm' => ?_⟩⟩
  · have hpt := pd_it h0 h2 hp t
    obtain ⟨m, hm', e1, e2⟩ := fi_mem (allF d) 0 (mem_of_pos h0 h2 hpt)
    refine ⟨m, hm', e1, by rw [e2]; omega, fun S hS => ?_⟩
    rw [hS.2 m hm', e1, met_new h0 h2 hi hm t]
    rcases Nat.lt_or_ge t k with h5 | h5
    · rw [walk_no h0 h2 hp k5 h5]
      have : ¬ t = k := by omega
      simp [this]
    · have : t = k := by omega
      subst this
      have : (iL (allF d)[i] t).any (fun y => eqFm y (itF (allF d)[i] t)) = true := by
        rw [List.any_eq_true]
        exact ⟨(allF d)[i], mem_iL.2 ⟨0, by omega, rfl⟩, eqFm_iff.2 k4.symm⟩
      rw [this]
      simp
  · rw [hS.2 m hm', metF_succ hi]
    unfold inC
    rw [k3]
    rfl
theorem it_in {d : Int} (h0 : 0 < d) (h2 : d ≤ 2000) {f : Fm} (h : Pd d f) (t : Nat) : vFm (itF f t) = true := (pd_it h0 h2 h t).1
theorem sClassNumber_any (d : Int) (w : World) :
    Calls Try.prog 37 #[.int .i64 d] w fun e w' => e = .returned (.tuple #[.int .i64 (clR d).1, .int .i64 (clR d).2]) ∧ Below w.heap.size w w' := by
  have CX := Lib.hid (l11Code_any d)
  by_cases hc : codeF d = 0
  · have hd := codeF_zero hc
    have hd0 := (codeF_nsq hc).1
    have hlen := allF_len hd
    rw [hc] at CX
    have HQ := Lib.hid (l11All_any d · hd)
    by_cases hneg : d < 0
    · have HF : Hid (clR d = (((allF d).length : Int), 0)) := Lib.hid (by unfold clR; rw [if_pos hc, if_pos hneg])
      generalize allF d = L at *
      go_enter Try.func37, Try.ntmps37
      go_wp2_with (go_at_call 55; refine (CX.out _).mono ?_; rintro e w1 ⟨rfl, rfl⟩)
      refine (HQ.out _).mono ?_
      intro e w1 hr
      unfold RetF at hr
      obtain ⟨V, rfl, hV, hb1⟩ := hr
      obtain ⟨ao, cap, hv⟩ := hV.len
      subst hv
      go_wp2_with fail
      go_ret2
      exact ⟨by rw [HF.out] <;> rfl, hb1⟩
    · have h0 : 0 < d := by omega
      have HF : Hid (clR d = ((clF (allF d) (allF d).length : Int), 0)) := Lib.hid (by unfold clR; rw [if_pos hc, if_neg hneg])
      have HP : Hid (∀ z ∈ allF d, Pd d z) := Lib.hid (fun z hz => all_mem hz)
      have HO1 : Hid (∀ i, (hi : i < (allF d).length) → metF (allF d) i (allF d)[i] = true → ∀ x, metF (allF d) (i + 1) x = metF (allF d) i x) := Lib.hid (fun i hi h x => met_old h0 hd.2 hi h x)
      have HW : Hid (∀ i, (hi : i < (allF d).length) → metF (allF d) i (allF d)[i] = false → ∃ k, 1 ≤ k ∧ (∀ t, t ≤ k → ∃ m, ∃ hm : m < (allF d).length, (allF d)[m] = itF (allF d)[i] t ∧ fiF (itF (allF d)[i] t) (allF d) 0 = m ∧
        (∀ S, Mk (allF d) i (allF d)[i] t S → S.getD m false = decide (t = k))) ∧
        (∀ S, Mk (allF d) i (allF d)[i] k S → S.length = (allF d).length ∧ ∀ m, (hm : m < (allF d).length) → S.getD m false = metF (allF d) (i + 1) (allF d)[m])) := Lib.hid (fun i hi h => way_at h0 hd.2 hi h)
      have HMS : Hid (∀ i f t m S, Mk (allF d) i f t S → (hm : m < (allF d).length) → (allF d)[m] = itF f t → Mk (allF d) i f (t + 1) (S.set m true)) := Lib.hid (fun i f t m S h hm e => mk_set h hm e)
      have HIT : Hid (∀ f, Pd d f → ∀ t, vFm (itF f t) = true) := Lib.hid (fun f h t => it_in h0 hd.2 h t)
      clear hc
      generalize allF d = L at *
      generalize clR d = R at *
      obtain ⟨i0', hi, hz0, hz1, hz2⟩ := info_parts infoB
      go_enter Try.func37, Try.ntmps37
      go_wp2_with (go_at_call 55; refine (CX.out _).mono ?_; rintro e w1 ⟨rfl, rfl⟩)
      refine (HQ.out _).mono ?_
      intro e w1 hr
      unfold RetF at hr
      obtain ⟨V, rfl, hV, hb1⟩ := hr
      have H := Lib.hid hV
      have hbel1 : Below w.heap.size w w1 := (by repeat' (first | (with_reducible exact Below.refl _ _) | (with_reducible assumption) | (with_reducible refine Below.setCell ?_ ?_ _) | (with_reducible refine Below.alloc ?_ ?_ _) | (with_reducible refine Below.drew ?_) | (with_reducible refine below_drewN ?_ _) | (with_reducible refine Below.trans ?_ (Below.mono (by with_reducible assumption) ?_)) | go_size | (simp at *; omega)))
      obtain ⟨ao, cap, hv⟩ := hV.len
      clear hV
      subst hv
      have hsz1 := hbel1.size
      clear hb1
      go_wp2_with (at_make; refine wpList_make_full _ rfl _ _ 66 rfl w1.heap.size 4 i0' (.bool false) 1 Try.underlying66 hi hz0 hz1 .i64 .i64 _ _ L.length rfl rfl rfl rfl ?b2 ?b3 ?b4 ?_)
      case b2 => rw [hz2]; omega
      case b3 => unfold maxLen; omega
      case b4 => omega
      intro w2 hown hgrow
      have HO := Lib.hid (ownB_made hown)
      have hb2 : Below w1.heap.size w1 w2 := Below.grown (Below.refl _ _) hgrow (Nat.le_refl _) (fun k hk => by cases hk)
      have hsb : w1.heap.size < w2.heap.size := ((hown.lt w1.heap.size rfl)).2
      clear hown hgrow hi hz0 hz1 hz2
      go_wp2
      go_loopg [7, 8] L.length (fun k u v wr => ∃ (i : Nat) (S : List Bool), i + k = L.length ∧ v = .int .i64 i ∧ u = .int .i64 (clF L i) ∧ Hid (OwnB wr w1.heap.size (.slice (some ⟨w1.heap.size, 0, none⟩) L.length L.length) S) ∧ Hid (S.length = L.length ∧ ∀ m, (hm : m < L.length) → S.getD m false = metF L i L[m]) ∧ w1.heap.size < wr.heap.size ∧ Below w1.heap.size w1 wr)
      case atStart => exact ⟨0, _, by omega, rfl, rfl, HO, Lib.hid ⟨by simp, fun m hm => by rw [metF_zero]; simp [List.getD, hm]⟩, hsb, hb2⟩
      case round =>
        obtain ⟨i, S, hik, rfl, rfl, HO, HS, hszm, hbel⟩ := hrel
        have hsz := hbel.size
        have hcl := clF_le L i
        by_cases hlt : i < L.length
        · obtain ⟨b, c1, hv, hlb⟩ : ∃ b c1, Value.slice ao L.length cap = .slice (some ⟨b, 0, none⟩) L.length c1 ∧ b < w1.heap.size := by
            rcases H.out.shape with ⟨h, _⟩ | ⟨_, g, cp, h, _, hl, _⟩
            · rw [h] at hlt
              simp at hlt
            · exact ⟨g, cp, h, hl⟩
          cases hv
          obtain ⟨x1, x2, x3⟩ := OwnF.cells (H.out.below hbel) i hlt
          obtain ⟨s1, s2⟩ := OwnB.cells HO.out HS.out.1 hlt
          rw [HS.out.2 i hlt] at s1
          have i0 : (0 : Int) ≤ (i : Int) := by omega
          have i1 : (i : Int) < (L.length : Int) := by omega
          cases hm : metF L i L[i]
          · rw [hm] at s1
            obtain ⟨k0, hk0, hway, hend⟩ := HW.out i hlt hm
            have E1 := Lib.hid (cl_new hlt hm)
            have HWay := Lib.hid hway
            have HEnd := Lib.hid hend
            have HMS2 := Lib.hid (HMS.out i L[i])
            have HIT2 := Lib.hid (HIT.out L[i] (HP.out _ (List.getElem_mem hlt)))
            have HMk : Hid (Mk L i L[i] 0 S) := Lib.hid (mk_start HS.out)
            clear hm hway hend HS
            obtain ⟨z, hz⟩ : ∃ z, L[i] = z := ⟨_, rfl⟩
            rw [hz] at x1 x2 x3 HWay HEnd HMS2 HIT2 HMk
            clear hz
            have e0 : itF z 0 = z := rfl
            obtain ⟨y0, hy0⟩ : ∃ y0, itF z 0 = y0 := ⟨_, rfl⟩
            have hyz : z = y0 := e0.symm.trans hy0
            rw [hyz] at x1 x2 x3
            have HY0 := Lib.hid hy0
            clear e0 hy0 hyz
            obtain ⟨za, zb, zc⟩ := y0
            dsimp only at x1 x2 x3
            obtain ⟨k1, rfl⟩ : ∃ k1, gk = k1 + 1 := ⟨gk - 1, by omega⟩
            have hsz' : w1.heap.size ≤ wr.heap.size := hsz
            go_wp2_with fail
            go_loopg [9] k0 (fun k p wr => ∃ (t bx : Nat) (S : List Bool) (x : Fm), t + k = k0 ∧ p = .pointer (some ⟨bx, 0, none⟩) ∧ w1.heap.size < bx ∧ Hid (itF z t = x) ∧ heapAt wr bx = some (.cells #[.int .i64 x.a, .int .i64 x.b, .int .i64 x.c] 25 (0, 0)) ∧ Hid (OwnB wr w1.heap.size (.slice (some ⟨w1.heap.size, 0, none⟩) L.length L.length) S) ∧ Hid (Mk L i z t S) ∧ Below w1.heap.size w1 wr)
            case atStart => exact ⟨0, wr.heap.size, S, ⟨za, zb, zc⟩, by omega, rfl, hszm, HY0, heapAt_new _ _, Lib.hid (allocB HO.out _), HMk, (by repeat' (first | (with_reducible exact Below.refl _ _) | (with_reducible assumption) | (with_reducible refine Below.setCell ?_ ?_ _) | (with_reducible refine Below.alloc ?_ ?_ _) | (with_reducible refine Below.drew ?_) | (with_reducible refine below_drewN ?_ _) | (with_reducible refine Below.trans ?_ (Below.mono (by with_reducible assumption) ?_)) | go_size | (simp at *; omega)))⟩
            case round =>
              obtain ⟨t, bx, S3, x, htk, rfl, hbx, HX, hbox, HO3, HMk3, hbel3⟩ := hrel
              obtain ⟨m, hm, e1, e2, e3⟩ := HWay.out t (by omega)
              have e4 := e3 S3 HMk3.out
              have hvx := HIT2.out t
              rw [HX.out] at e1 e2 hvx
              have HE := Lib.hid e1
              obtain ⟨v1, v2, v3⟩ := vF_in hvx
              have vc := vF_c hvx
              have FN := Lib.hid (by have h := l11Find_any (.slice (some ⟨b, 0, none⟩) L.length cap) L w.heap.size x; rw [e2] at h; exact h)
              have ST := Lib.hid (l11Step_any x.a x.b x.c · v1 v2 v3 vc)
              have HSx : Hid (itF z (t + 1) = stp x) := Lib.hid (by show stp (itF z t) = _; rw [HX.out])
              obtain ⟨y, hy⟩ : ∃ y, stp x = y := ⟨_, rfl⟩
              have hy' : stepF x.a x.b x.c = y := hy
              rw [hy] at HSx
              rw [hy'] at ST
              clear hy hy' e1 e2 e3 hvx v1 v2 v3 vc
              obtain ⟨xa, xb, xc⟩ := x
              obtain ⟨ya, yb, yc⟩ := y
              dsimp only at hbox FN ST
              have hsz3 := hbel3.size
              obtain ⟨p0, p1, p2, p3, p4, p5, p6⟩ := blk3 hbox
              have m0 : (0 : Int) ≤ (m : Int) := by omega
              have m1 : (m : Int) < (L.length : Int) := by omega
              go_wp2_with fail
              refine (FN.out _ (H.out.below hbel3) (by omega)).mono ?_
              rintro e w3 ⟨rfl, hb3⟩
              have HO4 := Lib.hid (HO3.out.below hb3)
              have hbox3 : heapAt w3 bx = _ := (hb3.block bx p0).trans hbox
              have hbel4 : Below w1.heap.size w1 w3 := hbel3.trans (hb3.mono (by omega))
              have hz3 := hb3.size
              obtain ⟨s3, s4⟩ := OwnB.cells HO4.out HMk3.out.1 hm
              rw [e4] at s3
              clear p1 p2 p3 p4 p5 p6 hb3 hbox
              obtain ⟨q0, p1, p2, p3, p4, p5, p6⟩ := blk3 hbox3
              by_cases hlast : t = k0
              · have ed : decide (t = k0) = true := by simp [hlast]
                rw [ed] at s3
                have HM5 := Lib.hid (HEnd.out S3 (by have h := HMk3.out; rw [hlast] at h; exact h))
                go_wp2_with fail
                go_roundg k1
                case measure => omega
                case rel => exact ⟨i + 1, S3, by omega, by go_num, by rw [E1.out]; go_num, HO4, HM5, by omega, hbel4⟩
              · have ed : decide (t = k0) = false := by simp [hlast]
                rw [ed] at s3
                have HSet := Lib.hid (setB HO4.out HMk3.out.1 hm true)
                have HMk4 := Lib.hid (HMS2.out t m S3 HMk3.out hm (by rw [HX.out]; exact HE.out))
                have hbn : w1.heap.size ≠ bx := by omega
                go_wp2_with fail
                refine (ST.out _).mono ?_
                rintro e w4 ⟨rfl, hb4⟩
                have HO5 := Lib.hid ((allocB HSet.out _).below hb4)
                have hbel5 : Below w1.heap.size w1 w4 := by
                  refine Below.trans ?_ (hb4.mono (by simp; omega))
                  exact (by repeat' (first | (with_reducible exact Below.refl _ _) | (with_reducible assumption) | (with_reducible refine Below.setCell ?_ ?_ _) | (with_reducible refine Below.alloc ?_ ?_ _) | (with_reducible refine Below.drew ?_) | (with_reducible refine below_drewN ?_ _) | (with_reducible refine Below.trans ?_ (Below.mono (by with_reducible assumption) ?_)) | go_size | (simp at *; omega)))
                have hz4 := hb4.size
                have hbox5 : heapAt w4 w3.heap.size = some (.cells #[.int .i64 xa, .int .i64 xb, .int .i64 xc] 25 (0, 0)) := (hb4.block _ (by simp)).trans (heapAt_setNew _ _ _ _)
                clear p1 p2 p3 p4 p5 p6 hb4
                obtain ⟨q1, p1, p2, p3, p4, p5, p6⟩ := blk3 hbox5
                go_wp2_with fail
                go_roundg (gk - 1)
                case measure => omega
                case rel => exact ⟨t + 1, w3.heap.size, _, ⟨ya, yb, yc⟩, by omega, rfl, by omega, HSx, by simp (disch := (first | omega | (simp; done) | (simp; omega))) [*], Lib.hid (setOB (setOB (setOB HO5.out (by omega) _) (by omega) _) (by omega) _), HMk4, (by repeat' (first | (with_reducible exact Below.refl _ _) | (with_reducible assumption) | (with_reducible refine Below.setCell ?_ ?_ _) | (with_reducible refine Below.alloc ?_ ?_ _) | (with_reducible refine Below.drew ?_) | (with_reducible refine below_drewN ?_ _) | (with_reducible refine Below.trans ?_ (Below.mono (by with_reducible assumption) ?_)) | go_size | (simp at *; omega)))⟩
          · rw [hm] at s1
            have E1 := Lib.hid (cl_old hlt hm)
            have HE2 := Lib.hid (HO1.out i hlt hm)
            clear hm
            go_wp2_with fail
            go_roundg (gk - 1)
            case measure => omega
            case rel => exact ⟨i + 1, S, by omega, by go_num, by rw [E1.out], HO, Lib.hid ⟨HS.out.1, fun m hm => by rw [HS.out.2 m hm, HE2.out]⟩, hszm, hbel⟩
        · have EQ : Hid (i = L.length) := Lib.hid (by omega)
          go_wp2_with fail
          go_ret2
          exact ⟨by rw [HF.out, ← EQ.out] <;> rfl, (by repeat' (first | (with_reducible exact Below.refl _ _) | (with_reducible assumption) | (with_reducible refine Below.setCell ?_ ?_ _) | (with_reducible refine Below.alloc ?_ ?_ _) | (with_reducible refine Below.drew ?_) | (with_reducible refine below_drewN ?_ _) | (with_reducible refine Below.trans ?_ (Below.mono (by with_reducible assumption) ?_)) | go_size | (simp at *; omega)))⟩
  · have HF : Hid (clR d = (0, codeF d)) := Lib.hid (by unfold clR; rw [if_neg hc])
    have hcb : (codeF d != 0) = true := by simp [hc]
    generalize clR d = R at *
    generalize codeF d = C at *
    go_enter Try.func37, Try.ntmps37
    go_wp2_with (go_at_call 55; refine (CX.out _).mono ?_; rintro e w1 ⟨rfl, rfl⟩)
    go_ret2
    exact ⟨by rw [HF.out] <;> rfl, (by repeat' (first | (with_reducible exact Below.refl _ _) | (with_reducible assumption) | (with_reducible refine Below.setCell ?_ ?_ _) | (with_reducible refine Below.alloc ?_ ?_ _) | (with_reducible refine Below.drew ?_) | (with_reducible refine below_drewN ?_ _) | (with_reducible refine Below.trans ?_ (Below.mono (by with_reducible assumption) ?_)) | go_size | (simp at *; omega)))⟩
theorem walk_FnExactClassNumber (d : Int) (wd : (Lit.int .i64 d).wf = true) (w : World) :
    Calls Try.prog 12 #[.int .i64 d] w fun e' w' => e' = .returned (.bool true) ∧ Below w.heap.size w w' := by
  have C1 := Lib.hid (sClassNumber_any d)
  have C2 := Lib.hid (iClassNumber_any d)
  generalize clR d = R at *
  obtain ⟨R1, R2⟩ := R
  go_enter Try.func12, Try.ntmps12
  go_wp2_with fail; refine (C1.out _).mono ?_; rintro e w1 ⟨rfl, hb1⟩; obtain ⟨hc1, hf1, -, hB1⟩ := bcell hb1; have hz1 := hb1.size; (try simp at hz1); (try have hk1_0 : w.heap.size < w1.heap.size := by omega); (try have hk1_1 : w.heap.size + 1 < w1.heap.size := by omega); (try have hk1_2 : w.heap.size + 1 + 1 < w1.heap.size := by omega); (try have hk1_3 : w.heap.size + 1 + 1 + 1 < w1.heap.size := by omega); (try have hk1_4 : wr.heap.size < w1.heap.size := by omega); (try have hk1_5 : wr.heap.size + 1 < w1.heap.size := by omega)
  go_wp2_with fail; refine (C2.out _).mono ?_; rintro e w2 ⟨rfl, hb2⟩; obtain ⟨hc2, hf2, -, hB2⟩ := bcell hb2; have hz2 := hb2.size; (try simp at hz2); (try have hk2_0 : w.heap.size < w2.heap.size := by omega); (try have hk2_1 : w.heap.size + 1 < w2.heap.size := by omega); (try have hk2_2 : w.heap.size + 1 + 1 < w2.heap.size := by omega); (try have hk2_3 : w.heap.size + 1 + 1 + 1 < w2.heap.size := by omega); (try have hk2_4 : wr.heap.size < w2.heap.size := by omega); (try have hk2_5 : wr.heap.size + 1 < w2.heap.size := by omega); (try have hk2_6 : w1.heap.size < w2.heap.size := by omega); (try have hk2_7 : w1.heap.size + 1 < w2.heap.size := by omega)
  go_wp2_with fail
  go_ret
  exact ⟨by simp, (by repeat' (first | (with_reducible exact Below.refl _ _) | (with_reducible assumption) | (with_reducible refine Below.setCell ?_ ?_ _) | (with_reducible refine Below.alloc ?_ ?_ _) | (with_reducible refine Below.drew ?_) | (with_reducible refine below_drewN ?_ _) | (with_reducible refine Below.trans ?_ (Below.mono (by with_reducible assumption) ?_)) | go_size | (simp at *; omega)))⟩
end Go.Proofs.Ytolbihoeheogkaa
