/- The cycles of all reduced forms are the classes: the walk. -/
import Derived.Test.YtolbihoeheogkaaDoorClP
import Derived.Test.YtolbihoeheogkaaDoorFTx
import Derived.BigQuiet
import Derived.Deep.DeepCutAuto
namespace Go.Proofs.YtolbihoeheogkaaDoor
open Go.ChangeShapes Go.WideShapes Go.ChangeAt Go.RowKit
set_option linter.unusedVariables false
set_option maxHeartbeats 8000000
set_option maxRecDepth 20000
theorem lenFm (a : Option Addr) (n c : Nat) (V : World) : Sem.run Tryd.prog (Builtin.len_ #[33] 3 #[.slice a n c]) V = .ok (.int .i64 n) V := by
  simp [Builtin.len_, go_sem]
theorem take_any {α : Type} {L : List α} {p : α → Bool} {m i : Nat} (h : m ≤ i) (hq : (L.take m).any p = true) : (L.take i).any p = true := by
  rw [List.any_eq_true] at hq ⊢
  obtain ⟨x, hx, e⟩ := hq
  obtain ⟨j, hj, rfl⟩ := List.mem_iff_getElem.1 hx
  simp at hj
  exact ⟨_, List.mem_iff_getElem.2 ⟨j, by simp; omega, rfl⟩, by simpa using e⟩
theorem take_any_all {α : Type} {L : List α} {p : α → Bool} {m : Nat} (hq : (L.take m).any p = true) : L.any p = true := by
  rw [List.any_eq_true] at hq ⊢
  obtain ⟨x, hx, e⟩ := hq
  exact ⟨x, List.mem_of_mem_take hx, e⟩
theorem take_any_succ {α : Type} {L : List α} {p : α → Bool} {m : Nat} (hm : m < L.length) (hq : (L.take m).any p = false) : (L.take (m + 1)).any p = p L[m] := by
  rw [List.take_succ_eq_append_getElem hm, List.any_append, hq]
  simp
theorem fc_is {a b c : Int} {C : List Fm} {f : FuncId} {x : Array Value} {w : World} (h : fcR a b c = (C, 0)) (H : Calls Tryd.prog f x w (RetFC w (fcR a b c).1 (fcR a b c).2)) : Calls Tryd.prog f x w (RetFC w C 0) := by
  rw [h] at H
  exact H
theorem Own.drewn {α : Type} {g : α → List Value} {k : Nat} {w : World} {B : Nat} {T : TypeId} {v : Value} {L : List α} (h : Own w B T k g v L) (n : Nat) : Own (w.drewN n) B T k g v L :=
  h.below (below_drewN (Below.refl _ _) n)
theorem walk_FnClasses (a : Option Addr) (len cap : Nat) (z : List Int) {w : World} (hr : IsRow .u8 w a len cap z) (ht : Tab w) :
    Calls Tryd.prog 4 #[.slice a len cap] w fun e w' => e = .returned (.bool true) ∧ Below w.heap.size w w' := by
  have HT := Lib.hid ht
  have HR := Lib.hid hr.bytes
  clear hr ht
  have LG := Lib.hid (a2Long_any a none len 0 cap 0)
  rw [show decide (3000 < 0) = false from rfl, Bool.or_false] at LG
  cases hbig : decide (3000 < len)
  case true =>
    rw [hbig] at LG
    go_enter Tryd.func4, Tryd.ntmps4
    go_wp2_with (go_at_call 8; refine (LG.out _).mono ?_; rintro e w1 ⟨rfl, rfl⟩)
    go_ret
    exact ⟨rfl, (by repeat' (first | (with_reducible exact Below.refl _ _) | (with_reducible assumption) | (with_reducible refine Below.setCell ?_ ?_ _) | (with_reducible refine Below.alloc ?_ ?_ _) | (with_reducible refine Below.drew ?_) | (with_reducible refine below_drewN ?_ _) | (with_reducible refine Below.trans ?_ (Below.mono (by with_reducible assumption) ?_)) | go_size | (simp at *; omega)))⟩
  case false =>
    rw [hbig] at LG
    have hl1 : ¬ 3000 < len := of_decide_eq_false hbig
    go_enter Tryd.func4, Tryd.ntmps4
    go_wp2_with (go_at_call 8; refine (LG.out _).mono ?_; rintro e w1 ⟨rfl, rfl⟩)
    go_wp2_with fail
    refine (a2Form_any a len cap w HR.out (by omega)).mono ?_
    rintro e w1 ⟨f1, f2, f3, rfl, hsm, b1⟩
    have B1 := Lib.hid b1
    clear b1
    obtain ⟨L, N, q1, q2, q3, q4, q5, q6, q7, q8, q9, q10, q11, q12⟩ := cl_all hsm
    obtain ⟨-, -, -, s4⟩ := hsm
    obtain ⟨d, hd⟩ : ∃ d, dF f1 f2 f3 = d := ⟨_, rfl⟩
    rw [hd] at q1 q2 q3 q9 q10
    have DG := Lib.hid (fun w => by have h := sDiscriminant_any f1 f2 f3 w; rw [show dR f1 f2 f3 = (d, 0) from by unfold dR; rw [if_pos s4, hd]] at h; exact h)
    have RF := Lib.hid (fun w => by have h := iReducedForms_any d w; rw [q1, q2] at h; exact h)
    have CN := Lib.hid (fun w => by have h := iClassNumber_any d w; rw [q3] at h; exact h)
    have FT := Lib.hid (fun w ht => iFT_any f1 f2 f3 w ht)
    have hRne : ftR f1 f2 f3 ≠ ⟨#[]⟩ := by unfold ftR; rw [if_pos s4]; exact ft_ne _ _ _
    generalize ftR f1 f2 f3 = R at FT hRne
    have HRne := Lib.hid hRne
    have DL := Lib.hid (fun i (hi : i < L.length) w => by have h := sDiscriminant_any L[i].a L[i].b L[i].c w; rw [show dR L[i].a L[i].b L[i].c = (d, 0) from by unfold dR; rw [if_pos (q10 i hi).1, (q10 i hi).2.2]] at h; exact h)
    have IL := Lib.hid (fun i (hi : i < L.length) w => by have h := sIsReducedForm_any L[i].a L[i].b L[i].c w; rw [(q10 i hi).1, (q10 i hi).2.1, Bool.and_self] at h; exact h)
    have HC := Lib.hid q11
    have HL := Lib.hid q12
    have HN := Lib.hid q4
    clear q1 q2 q3 q4 q10 q11 q12 hd hRne s4
    go_wp2_with fail
    obtain ⟨w2, hW⟩ : ∃ w', w' = (w1.alloc (.cells #[.int .i64 f1, .int .i64 f2, .int .i64 f3] 25)) := ⟨_, rfl⟩
    have bW : Below w1.heap.size w1 w2 := by rw [hW]; exact (by repeat' (first | (with_reducible exact Below.refl _ _) | (with_reducible assumption) | (with_reducible refine Below.setCell ?_ ?_ _) | (with_reducible refine Below.alloc ?_ ?_ _) | (with_reducible refine Below.drew ?_) | (with_reducible refine below_drewN ?_ _) | (with_reducible refine Below.trans ?_ (Below.mono (by with_reducible assumption) ?_)) | go_size | (simp at *; omega)))
    have F2 : Hid (heapAt w2 (w1.heap.size) = some (.cells #[.int .i64 f1, .int .i64 f2, .int .i64 f3] 25 (0, 0))) := Lib.hid (by rw [hW]; exact heapAt_new _ _)
    have B2 : Hid (Below w.heap.size w w2) := Lib.hid (B1.out.trans (bW.mono B1.out.size))
    rw [← hW]
    clear hW bW
    have cF := F2.out
    obtain ⟨zF, pF0, pF1, pF2, fF0, fF1, fF2⟩ := blk3 cF
    go_wp2_with fail
    refine (DG.out _).mono ?_
    rintro e w3 ⟨rfl, b3⟩
    have F3 : Hid (heapAt w3 (w1.heap.size) = some (.cells #[.int .i64 f1, .int .i64 f2, .int .i64 f3] 25 (0, 0))) := Lib.hid (blkK F2.out b3 (blk_lt F2.out))
    have B3 : Hid (Below w.heap.size w w3) := Lib.hid (B2.out.trans (b3.mono B2.out.size))
    clear b3
    clear pF0 pF1 pF2 fF0 fF1 fF2 cF
    go_wp2_with fail
    refine (RF.out _).mono ?_
    intro e w4 hr
    unfold RetFC at hr
    obtain ⟨V, rfl, hV, b4⟩ := hr
    have F4 : Hid (heapAt w4 (w1.heap.size) = some (.cells #[.int .i64 f1, .int .i64 f2, .int .i64 f3] 25 (0, 0))) := Lib.hid (blkK F3.out b4 (blk_lt F3.out))
    have B4 : Hid (Below w.heap.size w w4) := Lib.hid (B3.out.trans (b4.mono B3.out.size))
    clear b4
    obtain ⟨bL, cL, hv, hbL⟩ : ∃ bL cL, V = .slice (some ⟨bL, 0, none⟩) L.length cL ∧ bL < w4.heap.size := by
      rcases hV.shape with ⟨h, _⟩ | ⟨_, g, cp, h, _, hl, _⟩
      · rw [h] at q7
        simp at q7
      · exact ⟨g, cp, h, hl⟩
    subst hv
    have Q4 := Lib.hid hV
    clear hV
    go_wp2_with fail
    refine (CN.out _).mono ?_
    rintro e w5 ⟨rfl, b5⟩
    have F5 : Hid (heapAt w5 (w1.heap.size) = some (.cells #[.int .i64 f1, .int .i64 f2, .int .i64 f3] 25 (0, 0))) := Lib.hid (blkK F4.out b5 (blk_lt F4.out))
    have Q5 := Lib.hid (Q4.out.below b5)
    have B5 : Hid (Below w.heap.size w w5) := Lib.hid (B4.out.trans (b5.mono B4.out.size))
    clear b5
    have hlI : decide ((L.length : Int) < 1) = false := decide_eq_false (by omega)
    have hN1 : decide (N < 1) = false := decide_eq_false (by omega)
    have hN2 : decide (N > (L.length : Int)) = false := decide_eq_false (by omega)
    have e1 := lenFm
    go_upto_region 7 with fail
    go_cut [8, 68] (fun s8 s68 wx => s8 = .int .i64 N ∧ s68 = .bool false ∧ Below w5.heap.size w5 wx)
    case first =>
      by_cases hd : d < 0
      · have hNe : (N != (L.length : Int)) = false := by simp [q9 hd]
        go_wp2_with fail
        go_meet
        case rel => exact ⟨by rw [q9 hd], rfl, Below.refl _ _⟩
      · have hdb : decide (d < 0) = false := decide_eq_false hd
        go_wp2_with fail
        go_meet
        case rel => exact ⟨rfl, rfl, Below.refl _ _⟩
    case rest =>
      obtain ⟨w6, rfl⟩ : ∃ w6, w6 = wc := ⟨wc, rfl⟩
      obtain ⟨rfl, rfl, b6⟩ := hcut
      have F6 : Hid (heapAt w6 (w1.heap.size) = some (.cells #[.int .i64 f1, .int .i64 f2, .int .i64 f3] 25 (0, 0))) := Lib.hid (blkK F5.out b6 (blk_lt F5.out))
      have Q6 := Lib.hid (Q5.out.below b6)
      have B6 : Hid (Below w.heap.size w w6) := Lib.hid (B5.out.trans (b6.mono B5.out.size))
      have hbL6 : bL < w6.heap.size := by have := b6.size; have := (Q5.out.lt bL rfl).2; omega
      clear b6 hlI hN1 hN2 q9
      have n4 := guardF
      go_wp2_with fail
      go_loopg [10, 11] L.length (fun k u v wr => ∃ i : Nat, i + k = L.length ∧ v = .int .i64 i ∧ u = .int .i64 (clF L i : Nat) ∧ Below w6.heap.size w6 wr)
      case atStart => exact ⟨0, by omega, rfl, rfl, Below.refl _ _⟩
      case round =>
        obtain ⟨i, hik, rfl, rfl, hbel⟩ := hrel
        have hsz := hbel.size
        have hcl := clF_le L i
        by_cases hlt : i < L.length
        · obtain ⟨x1, x2, x3⟩ := OwnF.cells (Q6.out.below hbel) i hlt
          have DX := Lib.hid (DL.out i hlt)
          have IX := Lib.hid (IL.out i hlt)
          obtain ⟨C, c1, c2, c3⟩ := HC.out i hlt
          have HC3 := Lib.hid c3
          have FC := Lib.hid (fun w => fc_is c1 (sFormCycle_any L[i].a L[i].b L[i].c w))
          clear c1 c3
          have i0 : (0 : Int) ≤ (i : Int) := by omega
          have i1 : (i : Int) < (L.length : Int) := by omega
          obtain ⟨y, hy⟩ : ∃ y, L[i] = y := ⟨_, rfl⟩
          rw [hy] at x1 x2 x3 DX IX FC
          have HY := Lib.hid hy
          clear hy
          obtain ⟨ya, yb, yc⟩ := y
          dsimp only at x1 x2 x3 DX IX FC
          obtain ⟨k1, rfl⟩ : ∃ k1, gk = k1 + 1 := ⟨gk - 1, by omega⟩
          go_wp2_with fail
          refine (DX.out _).mono ?_
          rintro e w7 ⟨rfl, b7⟩
          have hbel7 : Below w6.heap.size w6 w7 := hbel.trans (b7.mono hsz)
          have hsz7 := hbel7.size
          clear b7 x1 x2 x3
          have zbL : bL < w7.heap.size := by omega
          go_upto_region 14 with fail
          go_cut [143] from 69 to 180 (fun s143 wx => s143 = .bool false ∧ Below w7.heap.size w7 wx)
          case first =>
            obtain ⟨x1, x2, x3⟩ := OwnF.cells (Q6.out.below hbel7) i hlt
            rw [HY.out] at x1 x2 x3
            dsimp only at x1 x2 x3
            rcases Nat.eq_zero_or_pos i with h0 | h0
            · have hib : decide ((i : Int) > 0) = false := decide_eq_false (by omega)
              have HI0 := Lib.hid h0
              clear h0
              go_wp2_with fail
              refine wp_region_held_drew (S := fun w' => Kept w7 w') (by kernel_rfl) (kept_drew (kept_refl _)) (fun hHeld => ?_)
              refine wpAnyH_take (i := 0) (v := ?vax0) (by simp only [List.getElem?_toArray, List.getElem?_cons_zero]; rfl) (by kernel_rfl) (by kernel_rfl) (by kernel_rfl) (by exact fun _ _ _ h => h) (Or.inl ⟨by rfl, ?hay0⟩) (by assumption) ?rarest0
              case hay0 => intro w' hSw; (try dsimp only at hSw); go_simp; (try with_reducible rfl); (try exact HI0.out); (try omega)
              try simp only [Act.put, List.setIfInBounds_toArray, List.set_cons_zero, List.set_cons_succ]
              refine wpAnyH_take (i := 1) (v := .bool false) (by simp only [List.getElem?_toArray, List.getElem?_cons_succ, List.getElem?_cons_zero]; rfl) (by kernel_rfl) (by kernel_rfl) (by kernel_rfl) (by exact fun _ _ _ h => h) (Or.inl ⟨by rfl, ?hay1⟩) (by assumption) ?rarest1
              case hay1 => intro w' hSw; (try dsimp only at hSw); go_simp; (try with_reducible rfl); (try exact HI0.out); (try omega)
              try simp only [Act.put, List.setIfInBounds_toArray, List.set_cons_zero, List.set_cons_succ]
              refine wpAnyH_take (i := 2) (v := .bool false) (by simp only [List.getElem?_toArray, List.getElem?_cons_succ, List.getElem?_cons_zero]; rfl) (by kernel_rfl) (by kernel_rfl) (by kernel_rfl) (by exact fun _ _ _ h => h) (Or.inl ⟨by rfl, ?hay2⟩) (by assumption) ?rarest2
              case hay2 => intro w' hSw; (try dsimp only at hSw); go_simp; (try with_reducible rfl); (try exact HI0.out); (try omega)
              try simp only [Act.put, List.setIfInBounds_toArray, List.set_cons_zero, List.set_cons_succ]
              refine wpAnyH_take (i := 3) (v := ?vax3) (by simp only [List.getElem?_toArray, List.getElem?_cons_succ, List.getElem?_cons_zero]; rfl) (by kernel_rfl) (by kernel_rfl) (by kernel_rfl) (by exact fun _ _ _ h => h) (Or.inl ⟨by rfl, ?hay3⟩) (by assumption) ?rarest3
              case hay3 => intro w' hSw; (try dsimp only at hSw); go_simp; (try with_reducible rfl); (try exact HI0.out); (try omega)
              try simp only [Act.put, List.setIfInBounds_toArray, List.set_cons_zero, List.set_cons_succ]
              refine wpAnyH_take (i := 4) (v := ?vax4) (by simp only [List.getElem?_toArray, List.getElem?_cons_succ, List.getElem?_cons_zero]; rfl) (by kernel_rfl) (by kernel_rfl) (by kernel_rfl) (by exact fun _ _ _ h => h) (Or.inl ⟨by rfl, ?hay4⟩) (by assumption) ?rarest4
              case hay4 => intro w' hSw; (try dsimp only at hSw); go_simp; (try with_reducible rfl); (try exact HI0.out); (try omega)
              try simp only [Act.put, List.setIfInBounds_toArray, List.set_cons_zero, List.set_cons_succ]
              refine wpAnyH_take (i := 5) (v := .bool false) (by simp only [List.getElem?_toArray, List.getElem?_cons_succ, List.getElem?_cons_zero]; rfl) (by kernel_rfl) (by kernel_rfl) (by kernel_rfl) (by exact fun _ _ _ h => h) (Or.inl ⟨by rfl, ?hay5⟩) (by assumption) ?rarest5
              case hay5 => intro w' hSw; (try dsimp only at hSw); go_simp; (try with_reducible rfl); (try exact HI0.out); (try omega)
              try simp only [Act.put, List.setIfInBounds_toArray, List.set_cons_zero, List.set_cons_succ]
              refine wpAnyH_take (i := 6) (v := .bool false) (by simp only [List.getElem?_toArray, List.getElem?_cons_succ, List.getElem?_cons_zero]; rfl) (by kernel_rfl) (by kernel_rfl) (by kernel_rfl) (by exact fun _ _ _ h => h) (Or.inl ⟨by rfl, ?hay6⟩) (by assumption) ?rarest6
              case hay6 => intro w' hSw; (try dsimp only at hSw); go_simp; (try with_reducible rfl); (try exact HI0.out); (try omega)
              try simp only [Act.put, List.setIfInBounds_toArray, List.set_cons_zero, List.set_cons_succ]
              refine wpAnyH_take (i := 7) (v := .bool false) (by simp only [List.getElem?_toArray, List.getElem?_cons_succ, List.getElem?_cons_zero]; rfl) (by kernel_rfl) (by kernel_rfl) (by kernel_rfl) (by exact fun _ _ _ h => h) (Or.inl ⟨by rfl, ?hay7⟩) (by assumption) ?rarest7
              case hay7 => intro w' hSw; (try dsimp only at hSw); go_simp; (try with_reducible rfl); (try exact HI0.out); (try omega)
              try simp only [Act.put, List.setIfInBounds_toArray, List.set_cons_zero, List.set_cons_succ]
              refine wpAnyH_take (i := 8) (v := ?vax8) (by simp only [List.getElem?_toArray, List.getElem?_cons_succ, List.getElem?_cons_zero]; rfl) (by kernel_rfl) (by kernel_rfl) (by kernel_rfl) (by exact fun _ _ _ h => h) (Or.inl ⟨by rfl, ?hay8⟩) (by assumption) ?rarest8
              case hay8 => intro w' hSw; (try dsimp only at hSw); go_simp; (try with_reducible rfl); (try exact HI0.out); (try omega)
              try simp only [Act.put, List.setIfInBounds_toArray, List.set_cons_zero, List.set_cons_succ]
              refine wpAnyH_take (i := 9) (v := ?vax9) (by simp only [List.getElem?_toArray, List.getElem?_cons_succ, List.getElem?_cons_zero]; rfl) (by kernel_rfl) (by kernel_rfl) (by kernel_rfl) (by exact fun _ _ _ h => h) (Or.inl ⟨by rfl, ?hay9⟩) (by assumption) ?rarest9
              case hay9 => intro w' hSw; (try dsimp only at hSw); go_simp; (try with_reducible rfl); (try exact HI0.out); (try omega)
              try simp only [Act.put, List.setIfInBounds_toArray, List.set_cons_zero, List.set_cons_succ]
              refine wpAnyH_take (i := 10) (v := ?vax10) (by simp only [List.getElem?_toArray, List.getElem?_cons_succ, List.getElem?_cons_zero]; rfl) (by kernel_rfl) (by kernel_rfl) (by kernel_rfl) (by exact fun _ _ _ h => h) (Or.inl ⟨by rfl, ?hay10⟩) (by assumption) ?rarest10
              case hay10 => intro w' hSw; (try dsimp only at hSw); go_simp; (try with_reducible rfl); (try exact HI0.out); (try omega)
              try simp only [Act.put, List.setIfInBounds_toArray, List.set_cons_zero, List.set_cons_succ]
              refine wpAnyH_take (i := 11) (v := ?vax11) (by simp only [List.getElem?_toArray, List.getElem?_cons_succ, List.getElem?_cons_zero]; rfl) (by kernel_rfl) (by kernel_rfl) (by kernel_rfl) (by exact fun _ _ _ h => h) (Or.inl ⟨by rfl, ?hay11⟩) (by assumption) ?rarest11
              case hay11 => intro w' hSw; (try dsimp only at hSw); go_simp; (try with_reducible rfl); (try exact HI0.out); (try omega)
              try simp only [Act.put, List.setIfInBounds_toArray, List.set_cons_zero, List.set_cons_succ]
              refine wpAnyH_ready (rs := [12]) (by kernel_rfl) (by simp) ?_
              refine AllReadyH.cons (by simp only [List.getElem?_toArray, List.getElem?_cons_succ, List.getElem?_cons_zero]; rfl) (fun K hK => ?_) AllReadyH.nil
              rw [if_pos (by rfl)]
              go_simp
              go_at_call 13
              refine (IX.out _).mono ?_
              rintro e wq ⟨rfl, hb1⟩
              have hd1 : w7.drew.heap.size = w7.heap.size := World.size_drew _
              have hkd : Kept w7 wq := kept_call hHeld hb1
              have hbw1 : Below w7.heap.size w7 wq := (Below.drew (Below.refl _ _)).trans hb1
              go_wp2_with fail
              refine hK.out _ _ hkd (fun hHeld2 => ?_)
              clear hK K hHeld hb1 hd1
              try simp only [Act.put, List.setIfInBounds_toArray, List.set_cons_zero, List.set_cons_succ]
              refine wpAnyH_take (i := 13) (v := .bool false) (by simp only [List.getElem?_toArray, List.getElem?_cons_succ, List.getElem?_cons_zero]; rfl) (by kernel_rfl) (by kernel_rfl) (by kernel_rfl) (by exact fun _ _ _ h => h) (Or.inl ⟨by rfl, ?hay13⟩) (by assumption) ?rarest13
              case hay13 => intro w' hSw; (try dsimp only at hSw); go_simp; (try with_reducible rfl); (try exact HI0.out); (try omega)
              try simp only [Act.put, List.setIfInBounds_toArray, List.set_cons_zero, List.set_cons_succ]
              refine wpAnyH_take (i := 14) (v := .bool false) (by simp only [List.getElem?_toArray, List.getElem?_cons_succ, List.getElem?_cons_zero]; rfl) (by kernel_rfl) (by kernel_rfl) (by kernel_rfl) (by exact fun _ _ _ h => h) (Or.inl ⟨by rfl, ?hay14⟩) (by assumption) ?rarest14
              case hay14 => intro w' hSw; (try dsimp only at hSw); go_simp; (try with_reducible rfl); (try exact HI0.out); (try omega)
              try simp only [Act.put, List.setIfInBounds_toArray, List.set_cons_zero, List.set_cons_succ]
              refine wpAnyH_take (i := 15) (v := .bool false) (by simp only [List.getElem?_toArray, List.getElem?_cons_succ, List.getElem?_cons_zero]; rfl) (by kernel_rfl) (by kernel_rfl) (by kernel_rfl) (by exact fun _ _ _ h => h) (Or.inl ⟨by rfl, ?hay15⟩) (by assumption) ?rarest15
              case hay15 => intro w' hSw; (try dsimp only at hSw); go_simp; (try with_reducible rfl); (try exact HI0.out); (try omega)
              try simp only [Act.put, List.setIfInBounds_toArray, List.set_cons_zero, List.set_cons_succ]
              refine wpAnyH_take (i := 16) (v := ?vax16) (by simp only [List.getElem?_toArray, List.getElem?_cons_succ, List.getElem?_cons_zero]; rfl) (by kernel_rfl) (by kernel_rfl) (by kernel_rfl) (by exact fun _ _ _ h => h) (Or.inl ⟨by rfl, ?hay16⟩) (by assumption) ?rarest16
              case hay16 => intro w' hSw; (try dsimp only at hSw); go_simp; (try with_reducible rfl); (try exact HI0.out); (try omega)
              try simp only [Act.put, List.setIfInBounds_toArray, List.set_cons_zero, List.set_cons_succ]
              refine wpAnyH_take (i := 17) (v := .bool false) (by simp only [List.getElem?_toArray, List.getElem?_cons_succ, List.getElem?_cons_zero]; rfl) (by kernel_rfl) (by kernel_rfl) (by kernel_rfl) (by exact fun _ _ _ h => h) (Or.inl ⟨by rfl, ?hay17⟩) (by assumption) ?rarest17
              case hay17 => intro w' hSw; (try dsimp only at hSw); go_simp; (try with_reducible rfl); (try exact HI0.out); (try omega)
              try simp only [Act.put, List.setIfInBounds_toArray, List.set_cons_zero, List.set_cons_succ]
              refine wpAnyH_take (i := 18) (v := .bool false) (by simp only [List.getElem?_toArray, List.getElem?_cons_succ, List.getElem?_cons_zero]; rfl) (by kernel_rfl) (by kernel_rfl) (by kernel_rfl) (by exact fun _ _ _ h => h) (Or.inl ⟨by rfl, ?hay18⟩) (by assumption) ?rarest18
              case hay18 => intro w' hSw; (try dsimp only at hSw); go_simp; (try with_reducible rfl); (try exact HI0.out); (try omega)
              try simp only [Act.put, List.setIfInBounds_toArray, List.set_cons_zero, List.set_cons_succ]
              refine wpAnyH_take (i := 19) (v := undef) (by simp only [List.getElem?_toArray, List.getElem?_cons_succ, List.getElem?_cons_zero]; rfl) (by kernel_rfl) (by kernel_rfl) (by kernel_rfl) (by exact fun _ _ _ h => h) (Or.inr ⟨by rfl, rfl⟩) (by assumption) ?_
              try simp only [Act.put, List.setIfInBounds_toArray, List.set_cons_zero, List.set_cons_succ]
              refine wpAnyH_take (i := 20) (v := undef) (by simp only [List.getElem?_toArray, List.getElem?_cons_succ, List.getElem?_cons_zero]; rfl) (by kernel_rfl) (by kernel_rfl) (by kernel_rfl) (by exact fun _ _ _ h => h) (Or.inr ⟨by rfl, rfl⟩) (by assumption) ?_
              try simp only [Act.put, List.setIfInBounds_toArray, List.set_cons_zero, List.set_cons_succ]
              refine wpAnyH_take (i := 21) (v := undef) (by simp only [List.getElem?_toArray, List.getElem?_cons_succ, List.getElem?_cons_zero]; rfl) (by kernel_rfl) (by kernel_rfl) (by kernel_rfl) (by exact fun _ _ _ h => h) (Or.inr ⟨by rfl, rfl⟩) (by assumption) ?_
              try simp only [Act.put, List.setIfInBounds_toArray, List.set_cons_zero, List.set_cons_succ]
              refine wpAnyH_take (i := 22) (v := undef) (by simp only [List.getElem?_toArray, List.getElem?_cons_succ, List.getElem?_cons_zero]; rfl) (by kernel_rfl) (by kernel_rfl) (by kernel_rfl) (by exact fun _ _ _ h => h) (Or.inr ⟨by rfl, rfl⟩) (by assumption) ?_
              try simp only [Act.put, List.setIfInBounds_toArray, List.set_cons_zero, List.set_cons_succ]
              refine wpAnyH_take (i := 23) (v := undef) (by simp only [List.getElem?_toArray, List.getElem?_cons_succ, List.getElem?_cons_zero]; rfl) (by kernel_rfl) (by kernel_rfl) (by kernel_rfl) (by exact fun _ _ _ h => h) (Or.inr ⟨by rfl, rfl⟩) (by assumption) ?_
              try simp only [Act.put, List.setIfInBounds_toArray, List.set_cons_zero, List.set_cons_succ]
              refine wpAnyH_take (i := 24) (v := undef) (by simp only [List.getElem?_toArray, List.getElem?_cons_succ, List.getElem?_cons_zero]; rfl) (by kernel_rfl) (by kernel_rfl) (by kernel_rfl) (by exact fun _ _ _ h => h) (Or.inr ⟨by rfl, rfl⟩) (by assumption) ?_
              try simp only [Act.put, List.setIfInBounds_toArray, List.set_cons_zero, List.set_cons_succ]
              refine wpAnyH_take (i := 25) (v := undef) (by simp only [List.getElem?_toArray, List.getElem?_cons_succ, List.getElem?_cons_zero]; rfl) (by kernel_rfl) (by kernel_rfl) (by kernel_rfl) (by exact fun _ _ _ h => h) (Or.inr ⟨by rfl, rfl⟩) (by assumption) ?_
              try simp only [Act.put, List.setIfInBounds_toArray, List.set_cons_zero, List.set_cons_succ]
              refine wpAnyH_take (i := 26) (v := undef) (by simp only [List.getElem?_toArray, List.getElem?_cons_succ, List.getElem?_cons_zero]; rfl) (by kernel_rfl) (by kernel_rfl) (by kernel_rfl) (by exact fun _ _ _ h => h) (Or.inr ⟨by rfl, rfl⟩) (by assumption) ?_
              try simp only [Act.put, List.setIfInBounds_toArray, List.set_cons_zero, List.set_cons_succ]
              refine wpAnyH_take (i := 27) (v := undef) (by simp only [List.getElem?_toArray, List.getElem?_cons_succ, List.getElem?_cons_zero]; rfl) (by kernel_rfl) (by kernel_rfl) (by kernel_rfl) (by exact fun _ _ _ h => h) (Or.inr ⟨by rfl, rfl⟩) (by assumption) ?_
              try simp only [Act.put, List.setIfInBounds_toArray, List.set_cons_zero, List.set_cons_succ]
              refine wpAnyH_take (i := 28) (v := undef) (by simp only [List.getElem?_toArray, List.getElem?_cons_succ, List.getElem?_cons_zero]; rfl) (by kernel_rfl) (by kernel_rfl) (by kernel_rfl) (by exact fun _ _ _ h => h) (Or.inr ⟨by rfl, rfl⟩) (by assumption) ?_
              try simp only [Act.put, List.setIfInBounds_toArray, List.set_cons_zero, List.set_cons_succ]
              refine wpAnyH_take (i := 29) (v := undef) (by simp only [List.getElem?_toArray, List.getElem?_cons_succ, List.getElem?_cons_zero]; rfl) (by kernel_rfl) (by kernel_rfl) (by kernel_rfl) (by exact fun _ _ _ h => h) (Or.inr ⟨by rfl, rfl⟩) (by assumption) ?_
              try simp only [Act.put, List.setIfInBounds_toArray, List.set_cons_zero, List.set_cons_succ]
              refine wpAnyH_take (i := 30) (v := undef) (by simp only [List.getElem?_toArray, List.getElem?_cons_succ, List.getElem?_cons_zero]; rfl) (by kernel_rfl) (by kernel_rfl) (by kernel_rfl) (by exact fun _ _ _ h => h) (Or.inr ⟨by rfl, rfl⟩) (by assumption) ?_
              try simp only [Act.put, List.setIfInBounds_toArray, List.set_cons_zero, List.set_cons_succ]
              refine wpAnyH_take (i := 31) (v := undef) (by simp only [List.getElem?_toArray, List.getElem?_cons_succ, List.getElem?_cons_zero]; rfl) (by kernel_rfl) (by kernel_rfl) (by kernel_rfl) (by exact fun _ _ _ h => h) (Or.inr ⟨by rfl, rfl⟩) (by assumption) ?_
              try simp only [Act.put, List.setIfInBounds_toArray, List.set_cons_zero, List.set_cons_succ]
              refine wpAnyH_take (i := 32) (v := undef) (by simp only [List.getElem?_toArray, List.getElem?_cons_succ, List.getElem?_cons_zero]; rfl) (by kernel_rfl) (by kernel_rfl) (by kernel_rfl) (by exact fun _ _ _ h => h) (Or.inr ⟨by rfl, rfl⟩) (by assumption) ?_
              try simp only [Act.put, List.setIfInBounds_toArray, List.set_cons_zero, List.set_cons_succ]
              refine wpAnyH_take (i := 33) (v := undef) (by simp only [List.getElem?_toArray, List.getElem?_cons_succ, List.getElem?_cons_zero]; rfl) (by kernel_rfl) (by kernel_rfl) (by kernel_rfl) (by exact fun _ _ _ h => h) (Or.inr ⟨by rfl, rfl⟩) (by assumption) ?_
              try simp only [Act.put, List.setIfInBounds_toArray, List.set_cons_zero, List.set_cons_succ]
              refine wpAnyH_take (i := 34) (v := undef) (by simp only [List.getElem?_toArray, List.getElem?_cons_succ, List.getElem?_cons_zero]; rfl) (by kernel_rfl) (by kernel_rfl) (by kernel_rfl) (by exact fun _ _ _ h => h) (Or.inr ⟨by rfl, rfl⟩) (by assumption) ?_
              try simp only [Act.put, List.setIfInBounds_toArray, List.set_cons_zero, List.set_cons_succ]
              refine wpAnyH_take (i := 35) (v := undef) (by simp only [List.getElem?_toArray, List.getElem?_cons_succ, List.getElem?_cons_zero]; rfl) (by kernel_rfl) (by kernel_rfl) (by kernel_rfl) (by exact fun _ _ _ h => h) (Or.inr ⟨by rfl, rfl⟩) (by assumption) ?_
              try simp only [Act.put, List.setIfInBounds_toArray, List.set_cons_zero, List.set_cons_succ]
              refine wpAnyH_take (i := 36) (v := undef) (by simp only [List.getElem?_toArray, List.getElem?_cons_succ, List.getElem?_cons_zero]; rfl) (by kernel_rfl) (by kernel_rfl) (by kernel_rfl) (by exact fun _ _ _ h => h) (Or.inr ⟨by rfl, rfl⟩) (by assumption) ?_
              try simp only [Act.put, List.setIfInBounds_toArray, List.set_cons_zero, List.set_cons_succ]
              refine wpAnyH_take (i := 37) (v := undef) (by simp only [List.getElem?_toArray, List.getElem?_cons_succ, List.getElem?_cons_zero]; rfl) (by kernel_rfl) (by kernel_rfl) (by kernel_rfl) (by exact fun _ _ _ h => h) (Or.inr ⟨by rfl, rfl⟩) (by assumption) ?_
              try simp only [Act.put, List.setIfInBounds_toArray, List.set_cons_zero, List.set_cons_succ]
              refine wpAnyH_take (i := 38) (v := undef) (by simp only [List.getElem?_toArray, List.getElem?_cons_succ, List.getElem?_cons_zero]; rfl) (by kernel_rfl) (by kernel_rfl) (by kernel_rfl) (by exact fun _ _ _ h => h) (Or.inr ⟨by rfl, rfl⟩) (by assumption) ?_
              try simp only [Act.put, List.setIfInBounds_toArray, List.set_cons_zero, List.set_cons_succ]
              refine wpAnyH_take (i := 39) (v := undef) (by simp only [List.getElem?_toArray, List.getElem?_cons_succ, List.getElem?_cons_zero]; rfl) (by kernel_rfl) (by kernel_rfl) (by kernel_rfl) (by exact fun _ _ _ h => h) (Or.inr ⟨by rfl, rfl⟩) (by assumption) ?_
              try simp only [Act.put, List.setIfInBounds_toArray, List.set_cons_zero, List.set_cons_succ]
              refine wpAnyH_take (i := 40) (v := undef) (by simp only [List.getElem?_toArray, List.getElem?_cons_succ, List.getElem?_cons_zero]; rfl) (by kernel_rfl) (by kernel_rfl) (by kernel_rfl) (by exact fun _ _ _ h => h) (Or.inr ⟨by rfl, rfl⟩) (by assumption) ?_
              try simp only [Act.put, List.setIfInBounds_toArray, List.set_cons_zero, List.set_cons_succ]
              refine wpAnyH_take (i := 41) (v := undef) (by simp only [List.getElem?_toArray, List.getElem?_cons_succ, List.getElem?_cons_zero]; rfl) (by kernel_rfl) (by kernel_rfl) (by kernel_rfl) (by exact fun _ _ _ h => h) (Or.inr ⟨by rfl, rfl⟩) (by assumption) ?_
              try simp only [Act.put, List.setIfInBounds_toArray, List.set_cons_zero, List.set_cons_succ]
              refine wpAnyH_take (i := 42) (v := undef) (by simp only [List.getElem?_toArray, List.getElem?_cons_succ, List.getElem?_cons_zero]; rfl) (by kernel_rfl) (by kernel_rfl) (by kernel_rfl) (by exact fun _ _ _ h => h) (Or.inr ⟨by rfl, rfl⟩) (by assumption) ?_
              try simp only [Act.put, List.setIfInBounds_toArray, List.set_cons_zero, List.set_cons_succ]
              refine wpAnyH_take (i := 43) (v := undef) (by simp only [List.getElem?_toArray, List.getElem?_cons_succ, List.getElem?_cons_zero]; rfl) (by kernel_rfl) (by kernel_rfl) (by kernel_rfl) (by exact fun _ _ _ h => h) (Or.inr ⟨by rfl, rfl⟩) (by assumption) ?_
              try simp only [Act.put, List.setIfInBounds_toArray, List.set_cons_zero, List.set_cons_succ]
              refine wpAnyH_take (i := 44) (v := undef) (by simp only [List.getElem?_toArray, List.getElem?_cons_succ, List.getElem?_cons_zero]; rfl) (by kernel_rfl) (by kernel_rfl) (by kernel_rfl) (by exact fun _ _ _ h => h) (Or.inr ⟨by rfl, rfl⟩) (by assumption) ?_
              try simp only [Act.put, List.setIfInBounds_toArray, List.set_cons_zero, List.set_cons_succ]
              refine wpAnyH_take (i := 45) (v := undef) (by simp only [List.getElem?_toArray, List.getElem?_cons_succ, List.getElem?_cons_zero]; rfl) (by kernel_rfl) (by kernel_rfl) (by kernel_rfl) (by exact fun _ _ _ h => h) (Or.inr ⟨by rfl, rfl⟩) (by assumption) ?_
              try simp only [Act.put, List.setIfInBounds_toArray, List.set_cons_zero, List.set_cons_succ]
              refine wpAnyH_take (i := 46) (v := undef) (by simp only [List.getElem?_toArray, List.getElem?_cons_succ, List.getElem?_cons_zero]; rfl) (by kernel_rfl) (by kernel_rfl) (by kernel_rfl) (by exact fun _ _ _ h => h) (Or.inr ⟨by rfl, rfl⟩) (by assumption) ?_
              try simp only [Act.put, List.setIfInBounds_toArray, List.set_cons_zero, List.set_cons_succ]
              refine wpAnyH_take (i := 47) (v := undef) (by simp only [List.getElem?_toArray, List.getElem?_cons_succ, List.getElem?_cons_zero]; rfl) (by kernel_rfl) (by kernel_rfl) (by kernel_rfl) (by exact fun _ _ _ h => h) (Or.inr ⟨by rfl, rfl⟩) (by assumption) ?_
              try simp only [Act.put, List.setIfInBounds_toArray, List.set_cons_zero, List.set_cons_succ]
              refine wpAnyH_take (i := 48) (v := undef) (by simp only [List.getElem?_toArray, List.getElem?_cons_succ, List.getElem?_cons_zero]; rfl) (by kernel_rfl) (by kernel_rfl) (by kernel_rfl) (by exact fun _ _ _ h => h) (Or.inr ⟨by rfl, rfl⟩) (by assumption) ?_
              try simp only [Act.put, List.setIfInBounds_toArray, List.set_cons_zero, List.set_cons_succ]
              refine wpAnyH_take (i := 49) (v := undef) (by simp only [List.getElem?_toArray, List.getElem?_cons_succ, List.getElem?_cons_zero]; rfl) (by kernel_rfl) (by kernel_rfl) (by kernel_rfl) (by exact fun _ _ _ h => h) (Or.inr ⟨by rfl, rfl⟩) (by assumption) ?_
              try simp only [Act.put, List.setIfInBounds_toArray, List.set_cons_zero, List.set_cons_succ]
              refine wpAnyH_take (i := 50) (v := undef) (by simp only [List.getElem?_toArray, List.getElem?_cons_succ, List.getElem?_cons_zero]; rfl) (by kernel_rfl) (by kernel_rfl) (by kernel_rfl) (by exact fun _ _ _ h => h) (Or.inr ⟨by rfl, rfl⟩) (by assumption) ?_
              try simp only [Act.put, List.setIfInBounds_toArray, List.set_cons_zero, List.set_cons_succ]
              refine wpAnyH_take (i := 51) (v := undef) (by simp only [List.getElem?_toArray, List.getElem?_cons_succ, List.getElem?_cons_zero]; rfl) (by kernel_rfl) (by kernel_rfl) (by kernel_rfl) (by exact fun _ _ _ h => h) (Or.inr ⟨by rfl, rfl⟩) (by assumption) ?_
              try simp only [Act.put, List.setIfInBounds_toArray, List.set_cons_zero, List.set_cons_succ]
              refine wpAnyH_take (i := 52) (v := undef) (by simp only [List.getElem?_toArray, List.getElem?_cons_succ, List.getElem?_cons_zero]; rfl) (by kernel_rfl) (by kernel_rfl) (by kernel_rfl) (by exact fun _ _ _ h => h) (Or.inr ⟨by rfl, rfl⟩) (by assumption) ?_
              try simp only [Act.put, List.setIfInBounds_toArray, List.set_cons_zero, List.set_cons_succ]
              refine wpAnyH_take (i := 53) (v := undef) (by simp only [List.getElem?_toArray, List.getElem?_cons_succ, List.getElem?_cons_zero]; rfl) (by kernel_rfl) (by kernel_rfl) (by kernel_rfl) (by exact fun _ _ _ h => h) (Or.inr ⟨by rfl, rfl⟩) (by assumption) ?_
              try simp only [Act.put, List.setIfInBounds_toArray, List.set_cons_zero, List.set_cons_succ]
              refine wpAnyH_take (i := 54) (v := undef) (by simp only [List.getElem?_toArray, List.getElem?_cons_succ, List.getElem?_cons_zero]; rfl) (by kernel_rfl) (by kernel_rfl) (by kernel_rfl) (by exact fun _ _ _ h => h) (Or.inr ⟨by rfl, rfl⟩) (by assumption) ?_
              try simp only [Act.put, List.setIfInBounds_toArray, List.set_cons_zero, List.set_cons_succ]
              refine wpAnyH_take (i := 55) (v := undef) (by simp only [List.getElem?_toArray, List.getElem?_cons_succ, List.getElem?_cons_zero]; rfl) (by kernel_rfl) (by kernel_rfl) (by kernel_rfl) (by exact fun _ _ _ h => h) (Or.inr ⟨by rfl, rfl⟩) (by assumption) ?_
              try simp only [Act.put, List.setIfInBounds_toArray, List.set_cons_zero, List.set_cons_succ]
              refine wpAnyH_take (i := 56) (v := undef) (by simp only [List.getElem?_toArray, List.getElem?_cons_succ, List.getElem?_cons_zero]; rfl) (by kernel_rfl) (by kernel_rfl) (by kernel_rfl) (by exact fun _ _ _ h => h) (Or.inr ⟨by rfl, rfl⟩) (by assumption) ?_
              try simp only [Act.put, List.setIfInBounds_toArray, List.set_cons_zero, List.set_cons_succ]
              refine wpAnyH_take (i := 57) (v := undef) (by simp only [List.getElem?_toArray, List.getElem?_cons_succ, List.getElem?_cons_zero]; rfl) (by kernel_rfl) (by kernel_rfl) (by kernel_rfl) (by exact fun _ _ _ h => h) (Or.inr ⟨by rfl, rfl⟩) (by assumption) ?_
              try simp only [Act.put, List.setIfInBounds_toArray, List.set_cons_zero, List.set_cons_succ]
              refine wpAnyH_take (i := 58) (v := undef) (by simp only [List.getElem?_toArray, List.getElem?_cons_succ, List.getElem?_cons_zero]; rfl) (by kernel_rfl) (by kernel_rfl) (by kernel_rfl) (by exact fun _ _ _ h => h) (Or.inr ⟨by rfl, rfl⟩) (by assumption) ?_
              try simp only [Act.put, List.setIfInBounds_toArray, List.set_cons_zero, List.set_cons_succ]
              refine wpAnyH_take (i := 59) (v := .bool false) (by simp only [List.getElem?_toArray, List.getElem?_cons_succ, List.getElem?_cons_zero]; rfl) (by kernel_rfl) (by kernel_rfl) (by kernel_rfl) (by exact fun _ _ _ h => h) (Or.inl ⟨by rfl, ?hay59⟩) (by assumption) ?rarest59
              case hay59 => intro w' hSw; (try dsimp only at hSw); go_simp; (try with_reducible rfl); (try exact HI0.out); (try omega)
              try simp only [Act.put, List.setIfInBounds_toArray, List.set_cons_zero, List.set_cons_succ]
              refine wpAnyH_take (i := 60) (v := .bool false) (by simp only [List.getElem?_toArray, List.getElem?_cons_succ, List.getElem?_cons_zero]; rfl) (by kernel_rfl) (by kernel_rfl) (by kernel_rfl) (by exact fun _ _ _ h => h) (Or.inl ⟨by rfl, ?hay60⟩) (by assumption) ?rarest60
              case hay60 => intro w' hSw; (try dsimp only at hSw); go_simp; (try with_reducible rfl); (try exact HI0.out); (try omega)
              try simp only [Act.put, List.setIfInBounds_toArray, List.set_cons_zero, List.set_cons_succ]
              refine wpAnyH_done (by kernel_rfl) ?_ _
              go_wp2_with fail
              go_meet
              case rel => exact ⟨rfl, hbw1⟩
            · obtain ⟨m, hm⟩ : ∃ m, i = m + 1 := ⟨i - 1, by omega⟩
              have hlt2 : m < L.length := by omega
              obtain ⟨t1, t2, t3⟩ := OwnF.cells (Q6.out.below hbel7) m hlt2
              have hor := HL.out m (by omega)
              simp only [← hm] at hor
              rw [HY.out] at hor
              obtain ⟨t, ht⟩ : ∃ t, L[m] = t := ⟨_, rfl⟩
              rw [ht] at t1 t2 t3 hor
              clear ht
              obtain ⟨ta, tb, tc⟩ := t
              dsimp only at t1 t2 t3
              have hor' : ta < ya ∨ ta = ya ∧ tb < yb := hor
              clear hor
              have hib : (0 : Int) < (i : Int) := by omega
              have hms : (i : Int) - 1 = (m : Int) := by omega
              have hwm : IntKind.i64.wrap (m : Int) = (m : Int) := IntWalk.i64_in _ (by omega)
              clear hm h0
              have m0 : (0 : Int) ≤ (m : Int) := by omega
              have m1 : (m : Int) < (L.length : Int) := by omega
              rcases hor' with ho | ⟨ho1, ho2⟩
              · have g1 : decide (ya < ta) = false := decide_eq_false (by omega)
                have g2 : (ya == ta) = false := beq_eq_false_iff_ne.2 (by omega)
                go_wp2_with fail
                refine wp_region_held_drew (S := fun w' => Kept w7 w') (by kernel_rfl) (kept_drew (kept_refl _)) (fun hHeld => ?_)
                refine wpAnyH_take (i := 0) (v := ?vbx0) (by simp only [List.getElem?_toArray, List.getElem?_cons_zero]; rfl) (by kernel_rfl) (by kernel_rfl) (by kernel_rfl) (by exact fun _ _ _ h => h) (Or.inl ⟨by rfl, ?hby0⟩) (by assumption) ?rbrest0
                case hby0 => intro w' hSw; (try dsimp only at hSw); go_simp; (try with_reducible rfl); (try exact HI0.out); (try omega)
                try simp only [Act.put, List.setIfInBounds_toArray, List.set_cons_zero, List.set_cons_succ]
                refine wpAnyH_take (i := 1) (v := .bool false) (by simp only [List.getElem?_toArray, List.getElem?_cons_succ, List.getElem?_cons_zero]; rfl) (by kernel_rfl) (by kernel_rfl) (by kernel_rfl) (by exact fun _ _ _ h => h) (Or.inl ⟨by rfl, ?hby1⟩) (by assumption) ?rbrest1
                case hby1 => intro w' hSw; (try dsimp only at hSw); go_simp; (try with_reducible rfl); (try exact HI0.out); (try omega)
                try simp only [Act.put, List.setIfInBounds_toArray, List.set_cons_zero, List.set_cons_succ]
                refine wpAnyH_take (i := 2) (v := .bool false) (by simp only [List.getElem?_toArray, List.getElem?_cons_succ, List.getElem?_cons_zero]; rfl) (by kernel_rfl) (by kernel_rfl) (by kernel_rfl) (by exact fun _ _ _ h => h) (Or.inl ⟨by rfl, ?hby2⟩) (by assumption) ?rbrest2
                case hby2 => intro w' hSw; (try dsimp only at hSw); go_simp; (try with_reducible rfl); (try exact HI0.out); (try omega)
                try simp only [Act.put, List.setIfInBounds_toArray, List.set_cons_zero, List.set_cons_succ]
                refine wpAnyH_take (i := 3) (v := ?vbx3) (by simp only [List.getElem?_toArray, List.getElem?_cons_succ, List.getElem?_cons_zero]; rfl) (by kernel_rfl) (by kernel_rfl) (by kernel_rfl) (by exact fun _ _ _ h => h) (Or.inl ⟨by rfl, ?hby3⟩) (by assumption) ?rbrest3
                case hby3 => intro w' hSw; (try dsimp only at hSw); go_simp; (try with_reducible rfl); (try exact HI0.out); (try omega)
                try simp only [Act.put, List.setIfInBounds_toArray, List.set_cons_zero, List.set_cons_succ]
                refine wpAnyH_take (i := 4) (v := ?vbx4) (by simp only [List.getElem?_toArray, List.getElem?_cons_succ, List.getElem?_cons_zero]; rfl) (by kernel_rfl) (by kernel_rfl) (by kernel_rfl) (by exact fun _ _ _ h => h) (Or.inl ⟨by rfl, ?hby4⟩) (by assumption) ?rbrest4
                case hby4 => intro w' hSw; (try dsimp only at hSw); go_simp; (try with_reducible rfl); (try exact HI0.out); (try omega)
                try simp only [Act.put, List.setIfInBounds_toArray, List.set_cons_zero, List.set_cons_succ]
                refine wpAnyH_take (i := 5) (v := .bool false) (by simp only [List.getElem?_toArray, List.getElem?_cons_succ, List.getElem?_cons_zero]; rfl) (by kernel_rfl) (by kernel_rfl) (by kernel_rfl) (by exact fun _ _ _ h => h) (Or.inl ⟨by rfl, ?hby5⟩) (by assumption) ?rbrest5
                case hby5 => intro w' hSw; (try dsimp only at hSw); go_simp; (try with_reducible rfl); (try exact HI0.out); (try omega)
                try simp only [Act.put, List.setIfInBounds_toArray, List.set_cons_zero, List.set_cons_succ]
                refine wpAnyH_take (i := 6) (v := .bool false) (by simp only [List.getElem?_toArray, List.getElem?_cons_succ, List.getElem?_cons_zero]; rfl) (by kernel_rfl) (by kernel_rfl) (by kernel_rfl) (by exact fun _ _ _ h => h) (Or.inl ⟨by rfl, ?hby6⟩) (by assumption) ?rbrest6
                case hby6 => intro w' hSw; (try dsimp only at hSw); go_simp; (try with_reducible rfl); (try exact HI0.out); (try omega)
                try simp only [Act.put, List.setIfInBounds_toArray, List.set_cons_zero, List.set_cons_succ]
                refine wpAnyH_take (i := 7) (v := .bool false) (by simp only [List.getElem?_toArray, List.getElem?_cons_succ, List.getElem?_cons_zero]; rfl) (by kernel_rfl) (by kernel_rfl) (by kernel_rfl) (by exact fun _ _ _ h => h) (Or.inl ⟨by rfl, ?hby7⟩) (by assumption) ?rbrest7
                case hby7 => intro w' hSw; (try dsimp only at hSw); go_simp; (try with_reducible rfl); (try exact HI0.out); (try omega)
                try simp only [Act.put, List.setIfInBounds_toArray, List.set_cons_zero, List.set_cons_succ]
                refine wpAnyH_take (i := 8) (v := ?vbx8) (by simp only [List.getElem?_toArray, List.getElem?_cons_succ, List.getElem?_cons_zero]; rfl) (by kernel_rfl) (by kernel_rfl) (by kernel_rfl) (by exact fun _ _ _ h => h) (Or.inl ⟨by rfl, ?hby8⟩) (by assumption) ?rbrest8
                case hby8 => intro w' hSw; (try dsimp only at hSw); go_simp; (try with_reducible rfl); (try exact HI0.out); (try omega)
                try simp only [Act.put, List.setIfInBounds_toArray, List.set_cons_zero, List.set_cons_succ]
                refine wpAnyH_take (i := 9) (v := ?vbx9) (by simp only [List.getElem?_toArray, List.getElem?_cons_succ, List.getElem?_cons_zero]; rfl) (by kernel_rfl) (by kernel_rfl) (by kernel_rfl) (by exact fun _ _ _ h => h) (Or.inl ⟨by rfl, ?hby9⟩) (by assumption) ?rbrest9
                case hby9 => intro w' hSw; (try dsimp only at hSw); go_simp; (try with_reducible rfl); (try exact HI0.out); (try omega)
                try simp only [Act.put, List.setIfInBounds_toArray, List.set_cons_zero, List.set_cons_succ]
                refine wpAnyH_take (i := 10) (v := ?vbx10) (by simp only [List.getElem?_toArray, List.getElem?_cons_succ, List.getElem?_cons_zero]; rfl) (by kernel_rfl) (by kernel_rfl) (by kernel_rfl) (by exact fun _ _ _ h => h) (Or.inl ⟨by rfl, ?hby10⟩) (by assumption) ?rbrest10
                case hby10 => intro w' hSw; (try dsimp only at hSw); go_simp; (try with_reducible rfl); (try exact HI0.out); (try omega)
                try simp only [Act.put, List.setIfInBounds_toArray, List.set_cons_zero, List.set_cons_succ]
                refine wpAnyH_take (i := 11) (v := ?vbx11) (by simp only [List.getElem?_toArray, List.getElem?_cons_succ, List.getElem?_cons_zero]; rfl) (by kernel_rfl) (by kernel_rfl) (by kernel_rfl) (by exact fun _ _ _ h => h) (Or.inl ⟨by rfl, ?hby11⟩) (by assumption) ?rbrest11
                case hby11 => intro w' hSw; (try dsimp only at hSw); go_simp; (try with_reducible rfl); (try exact HI0.out); (try omega)
                try simp only [Act.put, List.setIfInBounds_toArray, List.set_cons_zero, List.set_cons_succ]
                refine wpAnyH_ready (rs := [12]) (by kernel_rfl) (by simp) ?_
                refine AllReadyH.cons (by simp only [List.getElem?_toArray, List.getElem?_cons_succ, List.getElem?_cons_zero]; rfl) (fun K hK => ?_) AllReadyH.nil
                rw [if_pos (by rfl)]
                go_simp
                go_at_call 13
                refine (IX.out _).mono ?_
                rintro e wq ⟨rfl, hb1⟩
                have hd1 : w7.drew.heap.size = w7.heap.size := World.size_drew _
                have hkd : Kept w7 wq := kept_call hHeld hb1
                have hbw1 : Below w7.heap.size w7 wq := (Below.drew (Below.refl _ _)).trans hb1
                go_wp2_with fail
                refine hK.out _ _ hkd (fun hHeld2 => ?_)
                clear hK K hHeld hb1 hd1
                try simp only [Act.put, List.setIfInBounds_toArray, List.set_cons_zero, List.set_cons_succ]
                refine wpAnyH_take (i := 13) (v := .bool false) (by simp only [List.getElem?_toArray, List.getElem?_cons_succ, List.getElem?_cons_zero]; rfl) (by kernel_rfl) (by kernel_rfl) (by kernel_rfl) (by exact fun _ _ _ h => h) (Or.inl ⟨by rfl, ?hby13⟩) (by assumption) ?rbrest13
                case hby13 => intro w' hSw; (try dsimp only at hSw); go_simp; (try with_reducible rfl); (try exact HI0.out); (try omega)
                try simp only [Act.put, List.setIfInBounds_toArray, List.set_cons_zero, List.set_cons_succ]
                refine wpAnyH_take (i := 14) (v := .bool false) (by simp only [List.getElem?_toArray, List.getElem?_cons_succ, List.getElem?_cons_zero]; rfl) (by kernel_rfl) (by kernel_rfl) (by kernel_rfl) (by exact fun _ _ _ h => h) (Or.inl ⟨by rfl, ?hby14⟩) (by assumption) ?rbrest14
                case hby14 => intro w' hSw; (try dsimp only at hSw); go_simp; (try with_reducible rfl); (try exact HI0.out); (try omega)
                try simp only [Act.put, List.setIfInBounds_toArray, List.set_cons_zero, List.set_cons_succ]
                refine wpAnyH_take (i := 15) (v := .bool false) (by simp only [List.getElem?_toArray, List.getElem?_cons_succ, List.getElem?_cons_zero]; rfl) (by kernel_rfl) (by kernel_rfl) (by kernel_rfl) (by exact fun _ _ _ h => h) (Or.inl ⟨by rfl, ?hby15⟩) (by assumption) ?rbrest15
                case hby15 => intro w' hSw; (try dsimp only at hSw); go_simp; (try with_reducible rfl); (try exact HI0.out); (try omega)
                try simp only [Act.put, List.setIfInBounds_toArray, List.set_cons_zero, List.set_cons_succ]
                refine wpAnyH_take (i := 16) (v := ?vbx16) (by simp only [List.getElem?_toArray, List.getElem?_cons_succ, List.getElem?_cons_zero]; rfl) (by kernel_rfl) (by kernel_rfl) (by kernel_rfl) (by exact fun _ _ _ h => h) (Or.inl ⟨by rfl, ?hby16⟩) (by assumption) ?rbrest16
                case hby16 => intro w' hSw; (try dsimp only at hSw); go_simp; (try with_reducible rfl); (try exact HI0.out); (try omega)
                try simp only [Act.put, List.setIfInBounds_toArray, List.set_cons_zero, List.set_cons_succ]
                refine wpAnyH_take (i := 17) (v := .bool true) (by simp only [List.getElem?_toArray, List.getElem?_cons_succ, List.getElem?_cons_zero]; rfl) (by kernel_rfl) (by kernel_rfl) (by kernel_rfl) (by exact fun _ _ _ h => h) (Or.inl ⟨by rfl, ?hby17⟩) (by assumption) ?rbrest17
                case hby17 => intro w' hSw; (try dsimp only at hSw); go_simp; (try with_reducible rfl); (try exact HI0.out); (try omega)
                try simp only [Act.put, List.setIfInBounds_toArray, List.set_cons_zero, List.set_cons_succ]
                refine wpAnyH_take (i := 18) (v := .bool true) (by simp only [List.getElem?_toArray, List.getElem?_cons_succ, List.getElem?_cons_zero]; rfl) (by kernel_rfl) (by kernel_rfl) (by kernel_rfl) (by exact fun _ _ _ h => h) (Or.inl ⟨by rfl, ?hby18⟩) (by assumption) ?rbrest18
                case hby18 => intro w' hSw; (try dsimp only at hSw); go_simp; (try with_reducible rfl); (try exact HI0.out); (try omega)
                try simp only [Act.put, List.setIfInBounds_toArray, List.set_cons_zero, List.set_cons_succ]
                refine wpAnyH_take (i := 19) (v := ?vbx19) (by simp only [List.getElem?_toArray, List.getElem?_cons_succ, List.getElem?_cons_zero]; rfl) (by kernel_rfl) (by kernel_rfl) (by kernel_rfl) (by exact fun _ _ _ h => h) (Or.inl ⟨by rfl, ?hby19⟩) (by assumption) ?rbrest19
                case hby19 => intro w' hSw; (try dsimp only at hSw); go_simp; (try with_reducible rfl); (try exact HI0.out); (try omega)
                try simp only [Act.put, List.setIfInBounds_toArray, List.set_cons_zero, List.set_cons_succ]
                refine wpAnyH_take (i := 20) (v := ?vbx20) (by simp only [List.getElem?_toArray, List.getElem?_cons_succ, List.getElem?_cons_zero]; rfl) (by kernel_rfl) (by kernel_rfl) (by kernel_rfl) (by exact fun _ _ _ h => h) (Or.inl ⟨by rfl, ?hby20⟩) (by assumption) ?rbrest20
                case hby20 => intro w' hSw; (try dsimp only at hSw); go_simp; (try with_reducible rfl); (try exact HI0.out); (try omega)
                try simp only [Act.put, List.setIfInBounds_toArray, List.set_cons_zero, List.set_cons_succ]
                refine wpAnyH_take (i := 21) (v := ?vbx21) (by simp only [List.getElem?_toArray, List.getElem?_cons_succ, List.getElem?_cons_zero]; rfl) (by kernel_rfl) (by kernel_rfl) (by kernel_rfl) (by exact fun _ _ _ h => h) (Or.inl ⟨by rfl, ?hby21⟩) (by assumption) ?rbrest21
                case hby21 => intro w' hSw; (try dsimp only at hSw); go_simp; (try with_reducible rfl); (try exact HI0.out); (try omega)
                try simp only [Act.put, List.setIfInBounds_toArray, List.set_cons_zero, List.set_cons_succ]
                refine wpAnyH_take (i := 22) (v := ?vbx22) (by simp only [List.getElem?_toArray, List.getElem?_cons_succ, List.getElem?_cons_zero]; rfl) (by kernel_rfl) (by kernel_rfl) (by kernel_rfl) (by exact fun _ _ _ h => h) (Or.inl ⟨by rfl, ?hby22⟩) (by assumption) ?rbrest22
                case hby22 => intro w' hSw; (try dsimp only at hSw); go_simp; (try with_reducible rfl); (try exact HI0.out); (try omega)
                try simp only [Act.put, List.setIfInBounds_toArray, List.set_cons_zero, List.set_cons_succ]
                refine wpAnyH_take (i := 23) (v := ?vbx23) (by simp only [List.getElem?_toArray, List.getElem?_cons_succ, List.getElem?_cons_zero]; rfl) (by kernel_rfl) (by kernel_rfl) (by kernel_rfl) (by exact fun _ _ _ h => h) (Or.inl ⟨by rfl, ?hby23⟩) (by assumption) ?rbrest23
                case hby23 => intro w' hSw; (try dsimp only at hSw); go_simp; (try with_reducible rfl); (try exact HI0.out); (try omega)
                try simp only [Act.put, List.setIfInBounds_toArray, List.set_cons_zero, List.set_cons_succ]
                refine wpAnyH_take (i := 24) (v := ?vbx24) (by simp only [List.getElem?_toArray, List.getElem?_cons_succ, List.getElem?_cons_zero]; rfl) (by kernel_rfl) (by kernel_rfl) (by kernel_rfl) (by exact fun _ _ _ h => h) (Or.inl ⟨by rfl, ?hby24⟩) (by assumption) ?rbrest24
                case hby24 => intro w' hSw; (try dsimp only at hSw); go_simp; (try with_reducible rfl); (try exact HI0.out); (try omega)
                try simp only [Act.put, List.setIfInBounds_toArray, List.set_cons_zero, List.set_cons_succ]
                refine wpAnyH_take (i := 25) (v := ?vbx25) (by simp only [List.getElem?_toArray, List.getElem?_cons_succ, List.getElem?_cons_zero]; rfl) (by kernel_rfl) (by kernel_rfl) (by kernel_rfl) (by exact fun _ _ _ h => h) (Or.inl ⟨by rfl, ?hby25⟩) (by assumption) ?rbrest25
                case hby25 => intro w' hSw; (try dsimp only at hSw); go_simp; (try with_reducible rfl); (try exact HI0.out); (try omega)
                try simp only [Act.put, List.setIfInBounds_toArray, List.set_cons_zero, List.set_cons_succ]
                refine wpAnyH_take (i := 26) (v := ?vbx26) (by simp only [List.getElem?_toArray, List.getElem?_cons_succ, List.getElem?_cons_zero]; rfl) (by kernel_rfl) (by kernel_rfl) (by kernel_rfl) (by exact fun _ _ _ h => h) (Or.inl ⟨by rfl, ?hby26⟩) (by assumption) ?rbrest26
                case hby26 => intro w' hSw; (try dsimp only at hSw); go_simp; (try with_reducible rfl); (try exact HI0.out); (try omega)
                try simp only [Act.put, List.setIfInBounds_toArray, List.set_cons_zero, List.set_cons_succ]
                refine wpAnyH_take (i := 27) (v := ?vbx27) (by simp only [List.getElem?_toArray, List.getElem?_cons_succ, List.getElem?_cons_zero]; rfl) (by kernel_rfl) (by kernel_rfl) (by kernel_rfl) (by exact fun _ _ _ h => h) (Or.inl ⟨by rfl, ?hby27⟩) (by assumption) ?rbrest27
                case hby27 => intro w' hSw; (try dsimp only at hSw); go_simp; (try with_reducible rfl); (try exact HI0.out); (try omega)
                try simp only [Act.put, List.setIfInBounds_toArray, List.set_cons_zero, List.set_cons_succ]
                refine wpAnyH_take (i := 28) (v := ?vbx28) (by simp only [List.getElem?_toArray, List.getElem?_cons_succ, List.getElem?_cons_zero]; rfl) (by kernel_rfl) (by kernel_rfl) (by kernel_rfl) (by exact fun _ _ _ h => h) (Or.inl ⟨by rfl, ?hby28⟩) (by assumption) ?rbrest28
                case hby28 => intro w' hSw; (try dsimp only at hSw); go_simp; (try with_reducible rfl); (try exact HI0.out); (try omega)
                try simp only [Act.put, List.setIfInBounds_toArray, List.set_cons_zero, List.set_cons_succ]
                refine wpAnyH_take (i := 29) (v := ?vbx29) (by simp only [List.getElem?_toArray, List.getElem?_cons_succ, List.getElem?_cons_zero]; rfl) (by kernel_rfl) (by kernel_rfl) (by kernel_rfl) (by exact fun _ _ _ h => h) (Or.inl ⟨by rfl, ?hby29⟩) (by assumption) ?rbrest29
                case hby29 => intro w' hSw; (try dsimp only at hSw); go_simp; (try with_reducible rfl); (try exact HI0.out); (try omega)
                try simp only [Act.put, List.setIfInBounds_toArray, List.set_cons_zero, List.set_cons_succ]
                refine wpAnyH_take (i := 30) (v := .bool false) (by simp only [List.getElem?_toArray, List.getElem?_cons_succ, List.getElem?_cons_zero]; rfl) (by kernel_rfl) (by kernel_rfl) (by kernel_rfl) (by exact fun _ _ _ h => h) (Or.inl ⟨by rfl, ?hby30⟩) (by assumption) ?rbrest30
                case hby30 => intro w' hSw; (try dsimp only at hSw); go_simp; (try with_reducible rfl); (try exact HI0.out); (try omega)
                try simp only [Act.put, List.setIfInBounds_toArray, List.set_cons_zero, List.set_cons_succ]
                refine wpAnyH_take (i := 31) (v := .bool false) (by simp only [List.getElem?_toArray, List.getElem?_cons_succ, List.getElem?_cons_zero]; rfl) (by kernel_rfl) (by kernel_rfl) (by kernel_rfl) (by exact fun _ _ _ h => h) (Or.inl ⟨by rfl, ?hby31⟩) (by assumption) ?rbrest31
                case hby31 => intro w' hSw; (try dsimp only at hSw); go_simp; (try with_reducible rfl); (try exact HI0.out); (try omega)
                try simp only [Act.put, List.setIfInBounds_toArray, List.set_cons_zero, List.set_cons_succ]
                refine wpAnyH_take (i := 32) (v := ?vbx32) (by simp only [List.getElem?_toArray, List.getElem?_cons_succ, List.getElem?_cons_zero]; rfl) (by kernel_rfl) (by kernel_rfl) (by kernel_rfl) (by exact fun _ _ _ h => h) (Or.inl ⟨by rfl, ?hby32⟩) (by assumption) ?rbrest32
                case hby32 => intro w' hSw; (try dsimp only at hSw); go_simp; (try with_reducible rfl); (try exact HI0.out); (try omega)
                try simp only [Act.put, List.setIfInBounds_toArray, List.set_cons_zero, List.set_cons_succ]
                refine wpAnyH_take (i := 33) (v := ?vbx33) (by simp only [List.getElem?_toArray, List.getElem?_cons_succ, List.getElem?_cons_zero]; rfl) (by kernel_rfl) (by kernel_rfl) (by kernel_rfl) (by exact fun _ _ _ h => h) (Or.inl ⟨by rfl, ?hby33⟩) (by assumption) ?rbrest33
                case hby33 => intro w' hSw; (try dsimp only at hSw); go_simp; (try with_reducible rfl); (try exact HI0.out); (try omega)
                try simp only [Act.put, List.setIfInBounds_toArray, List.set_cons_zero, List.set_cons_succ]
                refine wpAnyH_take (i := 34) (v := ?vbx34) (by simp only [List.getElem?_toArray, List.getElem?_cons_succ, List.getElem?_cons_zero]; rfl) (by kernel_rfl) (by kernel_rfl) (by kernel_rfl) (by exact fun _ _ _ h => h) (Or.inl ⟨by rfl, ?hby34⟩) (by assumption) ?rbrest34
                case hby34 => intro w' hSw; (try dsimp only at hSw); go_simp; (try with_reducible rfl); (try exact HI0.out); (try omega)
                try simp only [Act.put, List.setIfInBounds_toArray, List.set_cons_zero, List.set_cons_succ]
                refine wpAnyH_take (i := 35) (v := ?vbx35) (by simp only [List.getElem?_toArray, List.getElem?_cons_succ, List.getElem?_cons_zero]; rfl) (by kernel_rfl) (by kernel_rfl) (by kernel_rfl) (by exact fun _ _ _ h => h) (Or.inl ⟨by rfl, ?hby35⟩) (by assumption) ?rbrest35
                case hby35 => intro w' hSw; (try dsimp only at hSw); go_simp; (try with_reducible rfl); (try exact HI0.out); (try omega)
                try simp only [Act.put, List.setIfInBounds_toArray, List.set_cons_zero, List.set_cons_succ]
                refine wpAnyH_take (i := 36) (v := ?vbx36) (by simp only [List.getElem?_toArray, List.getElem?_cons_succ, List.getElem?_cons_zero]; rfl) (by kernel_rfl) (by kernel_rfl) (by kernel_rfl) (by exact fun _ _ _ h => h) (Or.inl ⟨by rfl, ?hby36⟩) (by assumption) ?rbrest36
                case hby36 => intro w' hSw; (try dsimp only at hSw); go_simp; (try with_reducible rfl); (try exact HI0.out); (try omega)
                try simp only [Act.put, List.setIfInBounds_toArray, List.set_cons_zero, List.set_cons_succ]
                refine wpAnyH_take (i := 37) (v := ?vbx37) (by simp only [List.getElem?_toArray, List.getElem?_cons_succ, List.getElem?_cons_zero]; rfl) (by kernel_rfl) (by kernel_rfl) (by kernel_rfl) (by exact fun _ _ _ h => h) (Or.inl ⟨by rfl, ?hby37⟩) (by assumption) ?rbrest37
                case hby37 => intro w' hSw; (try dsimp only at hSw); go_simp; (try with_reducible rfl); (try exact HI0.out); (try omega)
                try simp only [Act.put, List.setIfInBounds_toArray, List.set_cons_zero, List.set_cons_succ]
                refine wpAnyH_take (i := 38) (v := ?vbx38) (by simp only [List.getElem?_toArray, List.getElem?_cons_succ, List.getElem?_cons_zero]; rfl) (by kernel_rfl) (by kernel_rfl) (by kernel_rfl) (by exact fun _ _ _ h => h) (Or.inl ⟨by rfl, ?hby38⟩) (by assumption) ?rbrest38
                case hby38 => intro w' hSw; (try dsimp only at hSw); go_simp; (try with_reducible rfl); (try exact HI0.out); (try omega)
                try simp only [Act.put, List.setIfInBounds_toArray, List.set_cons_zero, List.set_cons_succ]
                refine wpAnyH_take (i := 39) (v := ?vbx39) (by simp only [List.getElem?_toArray, List.getElem?_cons_succ, List.getElem?_cons_zero]; rfl) (by kernel_rfl) (by kernel_rfl) (by kernel_rfl) (by exact fun _ _ _ h => h) (Or.inl ⟨by rfl, ?hby39⟩) (by assumption) ?rbrest39
                case hby39 => intro w' hSw; (try dsimp only at hSw); go_simp; (try with_reducible rfl); (try exact HI0.out); (try omega)
                try simp only [Act.put, List.setIfInBounds_toArray, List.set_cons_zero, List.set_cons_succ]
                refine wpAnyH_take (i := 40) (v := ?vbx40) (by simp only [List.getElem?_toArray, List.getElem?_cons_succ, List.getElem?_cons_zero]; rfl) (by kernel_rfl) (by kernel_rfl) (by kernel_rfl) (by exact fun _ _ _ h => h) (Or.inl ⟨by rfl, ?hby40⟩) (by assumption) ?rbrest40
                case hby40 => intro w' hSw; (try dsimp only at hSw); go_simp; (try with_reducible rfl); (try exact HI0.out); (try omega)
                try simp only [Act.put, List.setIfInBounds_toArray, List.set_cons_zero, List.set_cons_succ]
                refine wpAnyH_take (i := 41) (v := ?vbx41) (by simp only [List.getElem?_toArray, List.getElem?_cons_succ, List.getElem?_cons_zero]; rfl) (by kernel_rfl) (by kernel_rfl) (by kernel_rfl) (by exact fun _ _ _ h => h) (Or.inl ⟨by rfl, ?hby41⟩) (by assumption) ?rbrest41
                case hby41 => intro w' hSw; (try dsimp only at hSw); go_simp; (try with_reducible rfl); (try exact HI0.out); (try omega)
                try simp only [Act.put, List.setIfInBounds_toArray, List.set_cons_zero, List.set_cons_succ]
                refine wpAnyH_take (i := 42) (v := ?vbx42) (by simp only [List.getElem?_toArray, List.getElem?_cons_succ, List.getElem?_cons_zero]; rfl) (by kernel_rfl) (by kernel_rfl) (by kernel_rfl) (by exact fun _ _ _ h => h) (Or.inl ⟨by rfl, ?hby42⟩) (by assumption) ?rbrest42
                case hby42 => intro w' hSw; (try dsimp only at hSw); go_simp; (try with_reducible rfl); (try exact HI0.out); (try omega)
                try simp only [Act.put, List.setIfInBounds_toArray, List.set_cons_zero, List.set_cons_succ]
                refine wpAnyH_take (i := 43) (v := .bool false) (by simp only [List.getElem?_toArray, List.getElem?_cons_succ, List.getElem?_cons_zero]; rfl) (by kernel_rfl) (by kernel_rfl) (by kernel_rfl) (by exact fun _ _ _ h => h) (Or.inl ⟨by rfl, ?hby43⟩) (by assumption) ?rbrest43
                case hby43 => intro w' hSw; (try dsimp only at hSw); go_simp; (try with_reducible rfl); (try exact HI0.out); (try omega)
                try simp only [Act.put, List.setIfInBounds_toArray, List.set_cons_zero, List.set_cons_succ]
                refine wpAnyH_take (i := 44) (v := .bool false) (by simp only [List.getElem?_toArray, List.getElem?_cons_succ, List.getElem?_cons_zero]; rfl) (by kernel_rfl) (by kernel_rfl) (by kernel_rfl) (by exact fun _ _ _ h => h) (Or.inl ⟨by rfl, ?hby44⟩) (by assumption) ?rbrest44
                case hby44 => intro w' hSw; (try dsimp only at hSw); go_simp; (try with_reducible rfl); (try exact HI0.out); (try omega)
                try simp only [Act.put, List.setIfInBounds_toArray, List.set_cons_zero, List.set_cons_succ]
                refine wpAnyH_take (i := 45) (v := undef) (by simp only [List.getElem?_toArray, List.getElem?_cons_succ, List.getElem?_cons_zero]; rfl) (by kernel_rfl) (by kernel_rfl) (by kernel_rfl) (by exact fun _ _ _ h => h) (Or.inr ⟨by rfl, rfl⟩) (by assumption) ?_
                try simp only [Act.put, List.setIfInBounds_toArray, List.set_cons_zero, List.set_cons_succ]
                refine wpAnyH_take (i := 46) (v := undef) (by simp only [List.getElem?_toArray, List.getElem?_cons_succ, List.getElem?_cons_zero]; rfl) (by kernel_rfl) (by kernel_rfl) (by kernel_rfl) (by exact fun _ _ _ h => h) (Or.inr ⟨by rfl, rfl⟩) (by assumption) ?_
                try simp only [Act.put, List.setIfInBounds_toArray, List.set_cons_zero, List.set_cons_succ]
                refine wpAnyH_take (i := 47) (v := undef) (by simp only [List.getElem?_toArray, List.getElem?_cons_succ, List.getElem?_cons_zero]; rfl) (by kernel_rfl) (by kernel_rfl) (by kernel_rfl) (by exact fun _ _ _ h => h) (Or.inr ⟨by rfl, rfl⟩) (by assumption) ?_
                try simp only [Act.put, List.setIfInBounds_toArray, List.set_cons_zero, List.set_cons_succ]
                refine wpAnyH_take (i := 48) (v := undef) (by simp only [List.getElem?_toArray, List.getElem?_cons_succ, List.getElem?_cons_zero]; rfl) (by kernel_rfl) (by kernel_rfl) (by kernel_rfl) (by exact fun _ _ _ h => h) (Or.inr ⟨by rfl, rfl⟩) (by assumption) ?_
                try simp only [Act.put, List.setIfInBounds_toArray, List.set_cons_zero, List.set_cons_succ]
                refine wpAnyH_take (i := 49) (v := undef) (by simp only [List.getElem?_toArray, List.getElem?_cons_succ, List.getElem?_cons_zero]; rfl) (by kernel_rfl) (by kernel_rfl) (by kernel_rfl) (by exact fun _ _ _ h => h) (Or.inr ⟨by rfl, rfl⟩) (by assumption) ?_
                try simp only [Act.put, List.setIfInBounds_toArray, List.set_cons_zero, List.set_cons_succ]
                refine wpAnyH_take (i := 50) (v := undef) (by simp only [List.getElem?_toArray, List.getElem?_cons_succ, List.getElem?_cons_zero]; rfl) (by kernel_rfl) (by kernel_rfl) (by kernel_rfl) (by exact fun _ _ _ h => h) (Or.inr ⟨by rfl, rfl⟩) (by assumption) ?_
                try simp only [Act.put, List.setIfInBounds_toArray, List.set_cons_zero, List.set_cons_succ]
                refine wpAnyH_take (i := 51) (v := undef) (by simp only [List.getElem?_toArray, List.getElem?_cons_succ, List.getElem?_cons_zero]; rfl) (by kernel_rfl) (by kernel_rfl) (by kernel_rfl) (by exact fun _ _ _ h => h) (Or.inr ⟨by rfl, rfl⟩) (by assumption) ?_
                try simp only [Act.put, List.setIfInBounds_toArray, List.set_cons_zero, List.set_cons_succ]
                refine wpAnyH_take (i := 52) (v := undef) (by simp only [List.getElem?_toArray, List.getElem?_cons_succ, List.getElem?_cons_zero]; rfl) (by kernel_rfl) (by kernel_rfl) (by kernel_rfl) (by exact fun _ _ _ h => h) (Or.inr ⟨by rfl, rfl⟩) (by assumption) ?_
                try simp only [Act.put, List.setIfInBounds_toArray, List.set_cons_zero, List.set_cons_succ]
                refine wpAnyH_take (i := 53) (v := undef) (by simp only [List.getElem?_toArray, List.getElem?_cons_succ, List.getElem?_cons_zero]; rfl) (by kernel_rfl) (by kernel_rfl) (by kernel_rfl) (by exact fun _ _ _ h => h) (Or.inr ⟨by rfl, rfl⟩) (by assumption) ?_
                try simp only [Act.put, List.setIfInBounds_toArray, List.set_cons_zero, List.set_cons_succ]
                refine wpAnyH_take (i := 54) (v := undef) (by simp only [List.getElem?_toArray, List.getElem?_cons_succ, List.getElem?_cons_zero]; rfl) (by kernel_rfl) (by kernel_rfl) (by kernel_rfl) (by exact fun _ _ _ h => h) (Or.inr ⟨by rfl, rfl⟩) (by assumption) ?_
                try simp only [Act.put, List.setIfInBounds_toArray, List.set_cons_zero, List.set_cons_succ]
                refine wpAnyH_take (i := 55) (v := undef) (by simp only [List.getElem?_toArray, List.getElem?_cons_succ, List.getElem?_cons_zero]; rfl) (by kernel_rfl) (by kernel_rfl) (by kernel_rfl) (by exact fun _ _ _ h => h) (Or.inr ⟨by rfl, rfl⟩) (by assumption) ?_
                try simp only [Act.put, List.setIfInBounds_toArray, List.set_cons_zero, List.set_cons_succ]
                refine wpAnyH_take (i := 56) (v := undef) (by simp only [List.getElem?_toArray, List.getElem?_cons_succ, List.getElem?_cons_zero]; rfl) (by kernel_rfl) (by kernel_rfl) (by kernel_rfl) (by exact fun _ _ _ h => h) (Or.inr ⟨by rfl, rfl⟩) (by assumption) ?_
                try simp only [Act.put, List.setIfInBounds_toArray, List.set_cons_zero, List.set_cons_succ]
                refine wpAnyH_take (i := 57) (v := .bool false) (by simp only [List.getElem?_toArray, List.getElem?_cons_succ, List.getElem?_cons_zero]; rfl) (by kernel_rfl) (by kernel_rfl) (by kernel_rfl) (by exact fun _ _ _ h => h) (Or.inl ⟨by rfl, ?hby57⟩) (by assumption) ?rbrest57
                case hby57 => intro w' hSw; (try dsimp only at hSw); go_simp; (try with_reducible rfl); (try exact HI0.out); (try omega)
                try simp only [Act.put, List.setIfInBounds_toArray, List.set_cons_zero, List.set_cons_succ]
                refine wpAnyH_take (i := 58) (v := .bool false) (by simp only [List.getElem?_toArray, List.getElem?_cons_succ, List.getElem?_cons_zero]; rfl) (by kernel_rfl) (by kernel_rfl) (by kernel_rfl) (by exact fun _ _ _ h => h) (Or.inl ⟨by rfl, ?hby58⟩) (by assumption) ?rbrest58
                case hby58 => intro w' hSw; (try dsimp only at hSw); go_simp; (try with_reducible rfl); (try exact HI0.out); (try omega)
                try simp only [Act.put, List.setIfInBounds_toArray, List.set_cons_zero, List.set_cons_succ]
                refine wpAnyH_take (i := 59) (v := .bool false) (by simp only [List.getElem?_toArray, List.getElem?_cons_succ, List.getElem?_cons_zero]; rfl) (by kernel_rfl) (by kernel_rfl) (by kernel_rfl) (by exact fun _ _ _ h => h) (Or.inl ⟨by rfl, ?hby59⟩) (by assumption) ?rbrest59
                case hby59 => intro w' hSw; (try dsimp only at hSw); go_simp; (try with_reducible rfl); (try exact HI0.out); (try omega)
                try simp only [Act.put, List.setIfInBounds_toArray, List.set_cons_zero, List.set_cons_succ]
                refine wpAnyH_take (i := 60) (v := .bool false) (by simp only [List.getElem?_toArray, List.getElem?_cons_succ, List.getElem?_cons_zero]; rfl) (by kernel_rfl) (by kernel_rfl) (by kernel_rfl) (by exact fun _ _ _ h => h) (Or.inl ⟨by rfl, ?hby60⟩) (by assumption) ?rbrest60
                case hby60 => intro w' hSw; (try dsimp only at hSw); go_simp; (try with_reducible rfl); (try exact HI0.out); (try omega)
                try simp only [Act.put, List.setIfInBounds_toArray, List.set_cons_zero, List.set_cons_succ]
                refine wpAnyH_done (by kernel_rfl) ?_ _
                go_wp2_with fail
                go_meet
                case rel => exact ⟨rfl, hbw1⟩
              · have g1 : decide (ya < ta) = false := decide_eq_false (by omega)
                have g2 : (ya == ta) = true := beq_iff_eq.2 ho1.symm
                have g3 : decide (yb ≤ tb) = false := decide_eq_false (by omega)
                go_wp2_with fail
                refine wp_region_held_drew (S := fun w' => Kept w7 w') (by kernel_rfl) (kept_drew (kept_refl _)) (fun hHeld => ?_)
                refine wpAnyH_take (i := 0) (v := ?vcx0) (by simp only [List.getElem?_toArray, List.getElem?_cons_zero]; rfl) (by kernel_rfl) (by kernel_rfl) (by kernel_rfl) (by exact fun _ _ _ h => h) (Or.inl ⟨by rfl, ?hcy0⟩) (by assumption) ?rcrest0
                case hcy0 => intro w' hSw; (try dsimp only at hSw); go_simp; (try with_reducible rfl); (try exact HI0.out); (try omega)
                try simp only [Act.put, List.setIfInBounds_toArray, List.set_cons_zero, List.set_cons_succ]
                refine wpAnyH_take (i := 1) (v := .bool false) (by simp only [List.getElem?_toArray, List.getElem?_cons_succ, List.getElem?_cons_zero]; rfl) (by kernel_rfl) (by kernel_rfl) (by kernel_rfl) (by exact fun _ _ _ h => h) (Or.inl ⟨by rfl, ?hcy1⟩) (by assumption) ?rcrest1
                case hcy1 => intro w' hSw; (try dsimp only at hSw); go_simp; (try with_reducible rfl); (try exact HI0.out); (try omega)
                try simp only [Act.put, List.setIfInBounds_toArray, List.set_cons_zero, List.set_cons_succ]
                refine wpAnyH_take (i := 2) (v := .bool false) (by simp only [List.getElem?_toArray, List.getElem?_cons_succ, List.getElem?_cons_zero]; rfl) (by kernel_rfl) (by kernel_rfl) (by kernel_rfl) (by exact fun _ _ _ h => h) (Or.inl ⟨by rfl, ?hcy2⟩) (by assumption) ?rcrest2
                case hcy2 => intro w' hSw; (try dsimp only at hSw); go_simp; (try with_reducible rfl); (try exact HI0.out); (try omega)
                try simp only [Act.put, List.setIfInBounds_toArray, List.set_cons_zero, List.set_cons_succ]
                refine wpAnyH_take (i := 3) (v := ?vcx3) (by simp only [List.getElem?_toArray, List.getElem?_cons_succ, List.getElem?_cons_zero]; rfl) (by kernel_rfl) (by kernel_rfl) (by kernel_rfl) (by exact fun _ _ _ h => h) (Or.inl ⟨by rfl, ?hcy3⟩) (by assumption) ?rcrest3
                case hcy3 => intro w' hSw; (try dsimp only at hSw); go_simp; (try with_reducible rfl); (try exact HI0.out); (try omega)
                try simp only [Act.put, List.setIfInBounds_toArray, List.set_cons_zero, List.set_cons_succ]
                refine wpAnyH_take (i := 4) (v := ?vcx4) (by simp only [List.getElem?_toArray, List.getElem?_cons_succ, List.getElem?_cons_zero]; rfl) (by kernel_rfl) (by kernel_rfl) (by kernel_rfl) (by exact fun _ _ _ h => h) (Or.inl ⟨by rfl, ?hcy4⟩) (by assumption) ?rcrest4
                case hcy4 => intro w' hSw; (try dsimp only at hSw); go_simp; (try with_reducible rfl); (try exact HI0.out); (try omega)
                try simp only [Act.put, List.setIfInBounds_toArray, List.set_cons_zero, List.set_cons_succ]
                refine wpAnyH_take (i := 5) (v := .bool false) (by simp only [List.getElem?_toArray, List.getElem?_cons_succ, List.getElem?_cons_zero]; rfl) (by kernel_rfl) (by kernel_rfl) (by kernel_rfl) (by exact fun _ _ _ h => h) (Or.inl ⟨by rfl, ?hcy5⟩) (by assumption) ?rcrest5
                case hcy5 => intro w' hSw; (try dsimp only at hSw); go_simp; (try with_reducible rfl); (try exact HI0.out); (try omega)
                try simp only [Act.put, List.setIfInBounds_toArray, List.set_cons_zero, List.set_cons_succ]
                refine wpAnyH_take (i := 6) (v := .bool false) (by simp only [List.getElem?_toArray, List.getElem?_cons_succ, List.getElem?_cons_zero]; rfl) (by kernel_rfl) (by kernel_rfl) (by kernel_rfl) (by exact fun _ _ _ h => h) (Or.inl ⟨by rfl, ?hcy6⟩) (by assumption) ?rcrest6
                case hcy6 => intro w' hSw; (try dsimp only at hSw); go_simp; (try with_reducible rfl); (try exact HI0.out); (try omega)
                try simp only [Act.put, List.setIfInBounds_toArray, List.set_cons_zero, List.set_cons_succ]
                refine wpAnyH_take (i := 7) (v := .bool false) (by simp only [List.getElem?_toArray, List.getElem?_cons_succ, List.getElem?_cons_zero]; rfl) (by kernel_rfl) (by kernel_rfl) (by kernel_rfl) (by exact fun _ _ _ h => h) (Or.inl ⟨by rfl, ?hcy7⟩) (by assumption) ?rcrest7
                case hcy7 => intro w' hSw; (try dsimp only at hSw); go_simp; (try with_reducible rfl); (try exact HI0.out); (try omega)
                try simp only [Act.put, List.setIfInBounds_toArray, List.set_cons_zero, List.set_cons_succ]
                refine wpAnyH_take (i := 8) (v := ?vcx8) (by simp only [List.getElem?_toArray, List.getElem?_cons_succ, List.getElem?_cons_zero]; rfl) (by kernel_rfl) (by kernel_rfl) (by kernel_rfl) (by exact fun _ _ _ h => h) (Or.inl ⟨by rfl, ?hcy8⟩) (by assumption) ?rcrest8
                case hcy8 => intro w' hSw; (try dsimp only at hSw); go_simp; (try with_reducible rfl); (try exact HI0.out); (try omega)
                try simp only [Act.put, List.setIfInBounds_toArray, List.set_cons_zero, List.set_cons_succ]
                refine wpAnyH_take (i := 9) (v := ?vcx9) (by simp only [List.getElem?_toArray, List.getElem?_cons_succ, List.getElem?_cons_zero]; rfl) (by kernel_rfl) (by kernel_rfl) (by kernel_rfl) (by exact fun _ _ _ h => h) (Or.inl ⟨by rfl, ?hcy9⟩) (by assumption) ?rcrest9
                case hcy9 => intro w' hSw; (try dsimp only at hSw); go_simp; (try with_reducible rfl); (try exact HI0.out); (try omega)
                try simp only [Act.put, List.setIfInBounds_toArray, List.set_cons_zero, List.set_cons_succ]
                refine wpAnyH_take (i := 10) (v := ?vcx10) (by simp only [List.getElem?_toArray, List.getElem?_cons_succ, List.getElem?_cons_zero]; rfl) (by kernel_rfl) (by kernel_rfl) (by kernel_rfl) (by exact fun _ _ _ h => h) (Or.inl ⟨by rfl, ?hcy10⟩) (by assumption) ?rcrest10
                case hcy10 => intro w' hSw; (try dsimp only at hSw); go_simp; (try with_reducible rfl); (try exact HI0.out); (try omega)
                try simp only [Act.put, List.setIfInBounds_toArray, List.set_cons_zero, List.set_cons_succ]
                refine wpAnyH_take (i := 11) (v := ?vcx11) (by simp only [List.getElem?_toArray, List.getElem?_cons_succ, List.getElem?_cons_zero]; rfl) (by kernel_rfl) (by kernel_rfl) (by kernel_rfl) (by exact fun _ _ _ h => h) (Or.inl ⟨by rfl, ?hcy11⟩) (by assumption) ?rcrest11
                case hcy11 => intro w' hSw; (try dsimp only at hSw); go_simp; (try with_reducible rfl); (try exact HI0.out); (try omega)
                try simp only [Act.put, List.setIfInBounds_toArray, List.set_cons_zero, List.set_cons_succ]
                refine wpAnyH_ready (rs := [12]) (by kernel_rfl) (by simp) ?_
                refine AllReadyH.cons (by simp only [List.getElem?_toArray, List.getElem?_cons_succ, List.getElem?_cons_zero]; rfl) (fun K hK => ?_) AllReadyH.nil
                rw [if_pos (by rfl)]
                go_simp
                go_at_call 13
                refine (IX.out _).mono ?_
                rintro e wq ⟨rfl, hb1⟩
                have hd1 : w7.drew.heap.size = w7.heap.size := World.size_drew _
                have hkd : Kept w7 wq := kept_call hHeld hb1
                have hbw1 : Below w7.heap.size w7 wq := (Below.drew (Below.refl _ _)).trans hb1
                go_wp2_with fail
                refine hK.out _ _ hkd (fun hHeld2 => ?_)
                clear hK K hHeld hb1 hd1
                try simp only [Act.put, List.setIfInBounds_toArray, List.set_cons_zero, List.set_cons_succ]
                refine wpAnyH_take (i := 13) (v := .bool false) (by simp only [List.getElem?_toArray, List.getElem?_cons_succ, List.getElem?_cons_zero]; rfl) (by kernel_rfl) (by kernel_rfl) (by kernel_rfl) (by exact fun _ _ _ h => h) (Or.inl ⟨by rfl, ?hcy13⟩) (by assumption) ?rcrest13
                case hcy13 => intro w' hSw; (try dsimp only at hSw); go_simp; (try with_reducible rfl); (try exact HI0.out); (try omega)
                try simp only [Act.put, List.setIfInBounds_toArray, List.set_cons_zero, List.set_cons_succ]
                refine wpAnyH_take (i := 14) (v := .bool false) (by simp only [List.getElem?_toArray, List.getElem?_cons_succ, List.getElem?_cons_zero]; rfl) (by kernel_rfl) (by kernel_rfl) (by kernel_rfl) (by exact fun _ _ _ h => h) (Or.inl ⟨by rfl, ?hcy14⟩) (by assumption) ?rcrest14
                case hcy14 => intro w' hSw; (try dsimp only at hSw); go_simp; (try with_reducible rfl); (try exact HI0.out); (try omega)
                try simp only [Act.put, List.setIfInBounds_toArray, List.set_cons_zero, List.set_cons_succ]
                refine wpAnyH_take (i := 15) (v := .bool false) (by simp only [List.getElem?_toArray, List.getElem?_cons_succ, List.getElem?_cons_zero]; rfl) (by kernel_rfl) (by kernel_rfl) (by kernel_rfl) (by exact fun _ _ _ h => h) (Or.inl ⟨by rfl, ?hcy15⟩) (by assumption) ?rcrest15
                case hcy15 => intro w' hSw; (try dsimp only at hSw); go_simp; (try with_reducible rfl); (try exact HI0.out); (try omega)
                try simp only [Act.put, List.setIfInBounds_toArray, List.set_cons_zero, List.set_cons_succ]
                refine wpAnyH_take (i := 16) (v := ?vcx16) (by simp only [List.getElem?_toArray, List.getElem?_cons_succ, List.getElem?_cons_zero]; rfl) (by kernel_rfl) (by kernel_rfl) (by kernel_rfl) (by exact fun _ _ _ h => h) (Or.inl ⟨by rfl, ?hcy16⟩) (by assumption) ?rcrest16
                case hcy16 => intro w' hSw; (try dsimp only at hSw); go_simp; (try with_reducible rfl); (try exact HI0.out); (try omega)
                try simp only [Act.put, List.setIfInBounds_toArray, List.set_cons_zero, List.set_cons_succ]
                refine wpAnyH_take (i := 17) (v := .bool true) (by simp only [List.getElem?_toArray, List.getElem?_cons_succ, List.getElem?_cons_zero]; rfl) (by kernel_rfl) (by kernel_rfl) (by kernel_rfl) (by exact fun _ _ _ h => h) (Or.inl ⟨by rfl, ?hcy17⟩) (by assumption) ?rcrest17
                case hcy17 => intro w' hSw; (try dsimp only at hSw); go_simp; (try with_reducible rfl); (try exact HI0.out); (try omega)
                try simp only [Act.put, List.setIfInBounds_toArray, List.set_cons_zero, List.set_cons_succ]
                refine wpAnyH_take (i := 18) (v := .bool true) (by simp only [List.getElem?_toArray, List.getElem?_cons_succ, List.getElem?_cons_zero]; rfl) (by kernel_rfl) (by kernel_rfl) (by kernel_rfl) (by exact fun _ _ _ h => h) (Or.inl ⟨by rfl, ?hcy18⟩) (by assumption) ?rcrest18
                case hcy18 => intro w' hSw; (try dsimp only at hSw); go_simp; (try with_reducible rfl); (try exact HI0.out); (try omega)
                try simp only [Act.put, List.setIfInBounds_toArray, List.set_cons_zero, List.set_cons_succ]
                refine wpAnyH_take (i := 19) (v := ?vcx19) (by simp only [List.getElem?_toArray, List.getElem?_cons_succ, List.getElem?_cons_zero]; rfl) (by kernel_rfl) (by kernel_rfl) (by kernel_rfl) (by exact fun _ _ _ h => h) (Or.inl ⟨by rfl, ?hcy19⟩) (by assumption) ?rcrest19
                case hcy19 => intro w' hSw; (try dsimp only at hSw); go_simp; (try with_reducible rfl); (try exact HI0.out); (try omega)
                try simp only [Act.put, List.setIfInBounds_toArray, List.set_cons_zero, List.set_cons_succ]
                refine wpAnyH_take (i := 20) (v := ?vcx20) (by simp only [List.getElem?_toArray, List.getElem?_cons_succ, List.getElem?_cons_zero]; rfl) (by kernel_rfl) (by kernel_rfl) (by kernel_rfl) (by exact fun _ _ _ h => h) (Or.inl ⟨by rfl, ?hcy20⟩) (by assumption) ?rcrest20
                case hcy20 => intro w' hSw; (try dsimp only at hSw); go_simp; (try with_reducible rfl); (try exact HI0.out); (try omega)
                try simp only [Act.put, List.setIfInBounds_toArray, List.set_cons_zero, List.set_cons_succ]
                refine wpAnyH_take (i := 21) (v := ?vcx21) (by simp only [List.getElem?_toArray, List.getElem?_cons_succ, List.getElem?_cons_zero]; rfl) (by kernel_rfl) (by kernel_rfl) (by kernel_rfl) (by exact fun _ _ _ h => h) (Or.inl ⟨by rfl, ?hcy21⟩) (by assumption) ?rcrest21
                case hcy21 => intro w' hSw; (try dsimp only at hSw); go_simp; (try with_reducible rfl); (try exact HI0.out); (try omega)
                try simp only [Act.put, List.setIfInBounds_toArray, List.set_cons_zero, List.set_cons_succ]
                refine wpAnyH_take (i := 22) (v := ?vcx22) (by simp only [List.getElem?_toArray, List.getElem?_cons_succ, List.getElem?_cons_zero]; rfl) (by kernel_rfl) (by kernel_rfl) (by kernel_rfl) (by exact fun _ _ _ h => h) (Or.inl ⟨by rfl, ?hcy22⟩) (by assumption) ?rcrest22
                case hcy22 => intro w' hSw; (try dsimp only at hSw); go_simp; (try with_reducible rfl); (try exact HI0.out); (try omega)
                try simp only [Act.put, List.setIfInBounds_toArray, List.set_cons_zero, List.set_cons_succ]
                refine wpAnyH_take (i := 23) (v := ?vcx23) (by simp only [List.getElem?_toArray, List.getElem?_cons_succ, List.getElem?_cons_zero]; rfl) (by kernel_rfl) (by kernel_rfl) (by kernel_rfl) (by exact fun _ _ _ h => h) (Or.inl ⟨by rfl, ?hcy23⟩) (by assumption) ?rcrest23
                case hcy23 => intro w' hSw; (try dsimp only at hSw); go_simp; (try with_reducible rfl); (try exact HI0.out); (try omega)
                try simp only [Act.put, List.setIfInBounds_toArray, List.set_cons_zero, List.set_cons_succ]
                refine wpAnyH_take (i := 24) (v := ?vcx24) (by simp only [List.getElem?_toArray, List.getElem?_cons_succ, List.getElem?_cons_zero]; rfl) (by kernel_rfl) (by kernel_rfl) (by kernel_rfl) (by exact fun _ _ _ h => h) (Or.inl ⟨by rfl, ?hcy24⟩) (by assumption) ?rcrest24
                case hcy24 => intro w' hSw; (try dsimp only at hSw); go_simp; (try with_reducible rfl); (try exact HI0.out); (try omega)
                try simp only [Act.put, List.setIfInBounds_toArray, List.set_cons_zero, List.set_cons_succ]
                refine wpAnyH_take (i := 25) (v := ?vcx25) (by simp only [List.getElem?_toArray, List.getElem?_cons_succ, List.getElem?_cons_zero]; rfl) (by kernel_rfl) (by kernel_rfl) (by kernel_rfl) (by exact fun _ _ _ h => h) (Or.inl ⟨by rfl, ?hcy25⟩) (by assumption) ?rcrest25
                case hcy25 => intro w' hSw; (try dsimp only at hSw); go_simp; (try with_reducible rfl); (try exact HI0.out); (try omega)
                try simp only [Act.put, List.setIfInBounds_toArray, List.set_cons_zero, List.set_cons_succ]
                refine wpAnyH_take (i := 26) (v := ?vcx26) (by simp only [List.getElem?_toArray, List.getElem?_cons_succ, List.getElem?_cons_zero]; rfl) (by kernel_rfl) (by kernel_rfl) (by kernel_rfl) (by exact fun _ _ _ h => h) (Or.inl ⟨by rfl, ?hcy26⟩) (by assumption) ?rcrest26
                case hcy26 => intro w' hSw; (try dsimp only at hSw); go_simp; (try with_reducible rfl); (try exact HI0.out); (try omega)
                try simp only [Act.put, List.setIfInBounds_toArray, List.set_cons_zero, List.set_cons_succ]
                refine wpAnyH_take (i := 27) (v := ?vcx27) (by simp only [List.getElem?_toArray, List.getElem?_cons_succ, List.getElem?_cons_zero]; rfl) (by kernel_rfl) (by kernel_rfl) (by kernel_rfl) (by exact fun _ _ _ h => h) (Or.inl ⟨by rfl, ?hcy27⟩) (by assumption) ?rcrest27
                case hcy27 => intro w' hSw; (try dsimp only at hSw); go_simp; (try with_reducible rfl); (try exact HI0.out); (try omega)
                try simp only [Act.put, List.setIfInBounds_toArray, List.set_cons_zero, List.set_cons_succ]
                refine wpAnyH_take (i := 28) (v := ?vcx28) (by simp only [List.getElem?_toArray, List.getElem?_cons_succ, List.getElem?_cons_zero]; rfl) (by kernel_rfl) (by kernel_rfl) (by kernel_rfl) (by exact fun _ _ _ h => h) (Or.inl ⟨by rfl, ?hcy28⟩) (by assumption) ?rcrest28
                case hcy28 => intro w' hSw; (try dsimp only at hSw); go_simp; (try with_reducible rfl); (try exact HI0.out); (try omega)
                try simp only [Act.put, List.setIfInBounds_toArray, List.set_cons_zero, List.set_cons_succ]
                refine wpAnyH_take (i := 29) (v := ?vcx29) (by simp only [List.getElem?_toArray, List.getElem?_cons_succ, List.getElem?_cons_zero]; rfl) (by kernel_rfl) (by kernel_rfl) (by kernel_rfl) (by exact fun _ _ _ h => h) (Or.inl ⟨by rfl, ?hcy29⟩) (by assumption) ?rcrest29
                case hcy29 => intro w' hSw; (try dsimp only at hSw); go_simp; (try with_reducible rfl); (try exact HI0.out); (try omega)
                try simp only [Act.put, List.setIfInBounds_toArray, List.set_cons_zero, List.set_cons_succ]
                refine wpAnyH_take (i := 30) (v := .bool false) (by simp only [List.getElem?_toArray, List.getElem?_cons_succ, List.getElem?_cons_zero]; rfl) (by kernel_rfl) (by kernel_rfl) (by kernel_rfl) (by exact fun _ _ _ h => h) (Or.inl ⟨by rfl, ?hcy30⟩) (by assumption) ?rcrest30
                case hcy30 => intro w' hSw; (try dsimp only at hSw); go_simp; (try with_reducible rfl); (try exact HI0.out); (try omega)
                try simp only [Act.put, List.setIfInBounds_toArray, List.set_cons_zero, List.set_cons_succ]
                refine wpAnyH_take (i := 31) (v := .bool false) (by simp only [List.getElem?_toArray, List.getElem?_cons_succ, List.getElem?_cons_zero]; rfl) (by kernel_rfl) (by kernel_rfl) (by kernel_rfl) (by exact fun _ _ _ h => h) (Or.inl ⟨by rfl, ?hcy31⟩) (by assumption) ?rcrest31
                case hcy31 => intro w' hSw; (try dsimp only at hSw); go_simp; (try with_reducible rfl); (try exact HI0.out); (try omega)
                try simp only [Act.put, List.setIfInBounds_toArray, List.set_cons_zero, List.set_cons_succ]
                refine wpAnyH_take (i := 32) (v := ?vcx32) (by simp only [List.getElem?_toArray, List.getElem?_cons_succ, List.getElem?_cons_zero]; rfl) (by kernel_rfl) (by kernel_rfl) (by kernel_rfl) (by exact fun _ _ _ h => h) (Or.inl ⟨by rfl, ?hcy32⟩) (by assumption) ?rcrest32
                case hcy32 => intro w' hSw; (try dsimp only at hSw); go_simp; (try with_reducible rfl); (try exact HI0.out); (try omega)
                try simp only [Act.put, List.setIfInBounds_toArray, List.set_cons_zero, List.set_cons_succ]
                refine wpAnyH_take (i := 33) (v := ?vcx33) (by simp only [List.getElem?_toArray, List.getElem?_cons_succ, List.getElem?_cons_zero]; rfl) (by kernel_rfl) (by kernel_rfl) (by kernel_rfl) (by exact fun _ _ _ h => h) (Or.inl ⟨by rfl, ?hcy33⟩) (by assumption) ?rcrest33
                case hcy33 => intro w' hSw; (try dsimp only at hSw); go_simp; (try with_reducible rfl); (try exact HI0.out); (try omega)
                try simp only [Act.put, List.setIfInBounds_toArray, List.set_cons_zero, List.set_cons_succ]
                refine wpAnyH_take (i := 34) (v := ?vcx34) (by simp only [List.getElem?_toArray, List.getElem?_cons_succ, List.getElem?_cons_zero]; rfl) (by kernel_rfl) (by kernel_rfl) (by kernel_rfl) (by exact fun _ _ _ h => h) (Or.inl ⟨by rfl, ?hcy34⟩) (by assumption) ?rcrest34
                case hcy34 => intro w' hSw; (try dsimp only at hSw); go_simp; (try with_reducible rfl); (try exact HI0.out); (try omega)
                try simp only [Act.put, List.setIfInBounds_toArray, List.set_cons_zero, List.set_cons_succ]
                refine wpAnyH_take (i := 35) (v := ?vcx35) (by simp only [List.getElem?_toArray, List.getElem?_cons_succ, List.getElem?_cons_zero]; rfl) (by kernel_rfl) (by kernel_rfl) (by kernel_rfl) (by exact fun _ _ _ h => h) (Or.inl ⟨by rfl, ?hcy35⟩) (by assumption) ?rcrest35
                case hcy35 => intro w' hSw; (try dsimp only at hSw); go_simp; (try with_reducible rfl); (try exact HI0.out); (try omega)
                try simp only [Act.put, List.setIfInBounds_toArray, List.set_cons_zero, List.set_cons_succ]
                refine wpAnyH_take (i := 36) (v := ?vcx36) (by simp only [List.getElem?_toArray, List.getElem?_cons_succ, List.getElem?_cons_zero]; rfl) (by kernel_rfl) (by kernel_rfl) (by kernel_rfl) (by exact fun _ _ _ h => h) (Or.inl ⟨by rfl, ?hcy36⟩) (by assumption) ?rcrest36
                case hcy36 => intro w' hSw; (try dsimp only at hSw); go_simp; (try with_reducible rfl); (try exact HI0.out); (try omega)
                try simp only [Act.put, List.setIfInBounds_toArray, List.set_cons_zero, List.set_cons_succ]
                refine wpAnyH_take (i := 37) (v := ?vcx37) (by simp only [List.getElem?_toArray, List.getElem?_cons_succ, List.getElem?_cons_zero]; rfl) (by kernel_rfl) (by kernel_rfl) (by kernel_rfl) (by exact fun _ _ _ h => h) (Or.inl ⟨by rfl, ?hcy37⟩) (by assumption) ?rcrest37
                case hcy37 => intro w' hSw; (try dsimp only at hSw); go_simp; (try with_reducible rfl); (try exact HI0.out); (try omega)
                try simp only [Act.put, List.setIfInBounds_toArray, List.set_cons_zero, List.set_cons_succ]
                refine wpAnyH_take (i := 38) (v := ?vcx38) (by simp only [List.getElem?_toArray, List.getElem?_cons_succ, List.getElem?_cons_zero]; rfl) (by kernel_rfl) (by kernel_rfl) (by kernel_rfl) (by exact fun _ _ _ h => h) (Or.inl ⟨by rfl, ?hcy38⟩) (by assumption) ?rcrest38
                case hcy38 => intro w' hSw; (try dsimp only at hSw); go_simp; (try with_reducible rfl); (try exact HI0.out); (try omega)
                try simp only [Act.put, List.setIfInBounds_toArray, List.set_cons_zero, List.set_cons_succ]
                refine wpAnyH_take (i := 39) (v := ?vcx39) (by simp only [List.getElem?_toArray, List.getElem?_cons_succ, List.getElem?_cons_zero]; rfl) (by kernel_rfl) (by kernel_rfl) (by kernel_rfl) (by exact fun _ _ _ h => h) (Or.inl ⟨by rfl, ?hcy39⟩) (by assumption) ?rcrest39
                case hcy39 => intro w' hSw; (try dsimp only at hSw); go_simp; (try with_reducible rfl); (try exact HI0.out); (try omega)
                try simp only [Act.put, List.setIfInBounds_toArray, List.set_cons_zero, List.set_cons_succ]
                refine wpAnyH_take (i := 40) (v := ?vcx40) (by simp only [List.getElem?_toArray, List.getElem?_cons_succ, List.getElem?_cons_zero]; rfl) (by kernel_rfl) (by kernel_rfl) (by kernel_rfl) (by exact fun _ _ _ h => h) (Or.inl ⟨by rfl, ?hcy40⟩) (by assumption) ?rcrest40
                case hcy40 => intro w' hSw; (try dsimp only at hSw); go_simp; (try with_reducible rfl); (try exact HI0.out); (try omega)
                try simp only [Act.put, List.setIfInBounds_toArray, List.set_cons_zero, List.set_cons_succ]
                refine wpAnyH_take (i := 41) (v := ?vcx41) (by simp only [List.getElem?_toArray, List.getElem?_cons_succ, List.getElem?_cons_zero]; rfl) (by kernel_rfl) (by kernel_rfl) (by kernel_rfl) (by exact fun _ _ _ h => h) (Or.inl ⟨by rfl, ?hcy41⟩) (by assumption) ?rcrest41
                case hcy41 => intro w' hSw; (try dsimp only at hSw); go_simp; (try with_reducible rfl); (try exact HI0.out); (try omega)
                try simp only [Act.put, List.setIfInBounds_toArray, List.set_cons_zero, List.set_cons_succ]
                refine wpAnyH_take (i := 42) (v := ?vcx42) (by simp only [List.getElem?_toArray, List.getElem?_cons_succ, List.getElem?_cons_zero]; rfl) (by kernel_rfl) (by kernel_rfl) (by kernel_rfl) (by exact fun _ _ _ h => h) (Or.inl ⟨by rfl, ?hcy42⟩) (by assumption) ?rcrest42
                case hcy42 => intro w' hSw; (try dsimp only at hSw); go_simp; (try with_reducible rfl); (try exact HI0.out); (try omega)
                try simp only [Act.put, List.setIfInBounds_toArray, List.set_cons_zero, List.set_cons_succ]
                refine wpAnyH_take (i := 43) (v := .bool true) (by simp only [List.getElem?_toArray, List.getElem?_cons_succ, List.getElem?_cons_zero]; rfl) (by kernel_rfl) (by kernel_rfl) (by kernel_rfl) (by exact fun _ _ _ h => h) (Or.inl ⟨by rfl, ?hcy43⟩) (by assumption) ?rcrest43
                case hcy43 => intro w' hSw; (try dsimp only at hSw); go_simp; (try with_reducible rfl); (try exact HI0.out); (try omega)
                try simp only [Act.put, List.setIfInBounds_toArray, List.set_cons_zero, List.set_cons_succ]
                refine wpAnyH_take (i := 44) (v := .bool true) (by simp only [List.getElem?_toArray, List.getElem?_cons_succ, List.getElem?_cons_zero]; rfl) (by kernel_rfl) (by kernel_rfl) (by kernel_rfl) (by exact fun _ _ _ h => h) (Or.inl ⟨by rfl, ?hcy44⟩) (by assumption) ?rcrest44
                case hcy44 => intro w' hSw; (try dsimp only at hSw); go_simp; (try with_reducible rfl); (try exact HI0.out); (try omega)
                try simp only [Act.put, List.setIfInBounds_toArray, List.set_cons_zero, List.set_cons_succ]
                refine wpAnyH_take (i := 45) (v := ?vcx45) (by simp only [List.getElem?_toArray, List.getElem?_cons_succ, List.getElem?_cons_zero]; rfl) (by kernel_rfl) (by kernel_rfl) (by kernel_rfl) (by exact fun _ _ _ h => h) (Or.inl ⟨by rfl, ?hcy45⟩) (by assumption) ?rcrest45
                case hcy45 => intro w' hSw; (try dsimp only at hSw); go_simp; (try with_reducible rfl); (try exact HI0.out); (try omega)
                try simp only [Act.put, List.setIfInBounds_toArray, List.set_cons_zero, List.set_cons_succ]
                refine wpAnyH_take (i := 46) (v := ?vcx46) (by simp only [List.getElem?_toArray, List.getElem?_cons_succ, List.getElem?_cons_zero]; rfl) (by kernel_rfl) (by kernel_rfl) (by kernel_rfl) (by exact fun _ _ _ h => h) (Or.inl ⟨by rfl, ?hcy46⟩) (by assumption) ?rcrest46
                case hcy46 => intro w' hSw; (try dsimp only at hSw); go_simp; (try with_reducible rfl); (try exact HI0.out); (try omega)
                try simp only [Act.put, List.setIfInBounds_toArray, List.set_cons_zero, List.set_cons_succ]
                refine wpAnyH_take (i := 47) (v := ?vcx47) (by simp only [List.getElem?_toArray, List.getElem?_cons_succ, List.getElem?_cons_zero]; rfl) (by kernel_rfl) (by kernel_rfl) (by kernel_rfl) (by exact fun _ _ _ h => h) (Or.inl ⟨by rfl, ?hcy47⟩) (by assumption) ?rcrest47
                case hcy47 => intro w' hSw; (try dsimp only at hSw); go_simp; (try with_reducible rfl); (try exact HI0.out); (try omega)
                try simp only [Act.put, List.setIfInBounds_toArray, List.set_cons_zero, List.set_cons_succ]
                refine wpAnyH_take (i := 48) (v := ?vcx48) (by simp only [List.getElem?_toArray, List.getElem?_cons_succ, List.getElem?_cons_zero]; rfl) (by kernel_rfl) (by kernel_rfl) (by kernel_rfl) (by exact fun _ _ _ h => h) (Or.inl ⟨by rfl, ?hcy48⟩) (by assumption) ?rcrest48
                case hcy48 => intro w' hSw; (try dsimp only at hSw); go_simp; (try with_reducible rfl); (try exact HI0.out); (try omega)
                try simp only [Act.put, List.setIfInBounds_toArray, List.set_cons_zero, List.set_cons_succ]
                refine wpAnyH_take (i := 49) (v := ?vcx49) (by simp only [List.getElem?_toArray, List.getElem?_cons_succ, List.getElem?_cons_zero]; rfl) (by kernel_rfl) (by kernel_rfl) (by kernel_rfl) (by exact fun _ _ _ h => h) (Or.inl ⟨by rfl, ?hcy49⟩) (by assumption) ?rcrest49
                case hcy49 => intro w' hSw; (try dsimp only at hSw); go_simp; (try with_reducible rfl); (try exact HI0.out); (try omega)
                try simp only [Act.put, List.setIfInBounds_toArray, List.set_cons_zero, List.set_cons_succ]
                refine wpAnyH_take (i := 50) (v := ?vcx50) (by simp only [List.getElem?_toArray, List.getElem?_cons_succ, List.getElem?_cons_zero]; rfl) (by kernel_rfl) (by kernel_rfl) (by kernel_rfl) (by exact fun _ _ _ h => h) (Or.inl ⟨by rfl, ?hcy50⟩) (by assumption) ?rcrest50
                case hcy50 => intro w' hSw; (try dsimp only at hSw); go_simp; (try with_reducible rfl); (try exact HI0.out); (try omega)
                try simp only [Act.put, List.setIfInBounds_toArray, List.set_cons_zero, List.set_cons_succ]
                refine wpAnyH_take (i := 51) (v := ?vcx51) (by simp only [List.getElem?_toArray, List.getElem?_cons_succ, List.getElem?_cons_zero]; rfl) (by kernel_rfl) (by kernel_rfl) (by kernel_rfl) (by exact fun _ _ _ h => h) (Or.inl ⟨by rfl, ?hcy51⟩) (by assumption) ?rcrest51
                case hcy51 => intro w' hSw; (try dsimp only at hSw); go_simp; (try with_reducible rfl); (try exact HI0.out); (try omega)
                try simp only [Act.put, List.setIfInBounds_toArray, List.set_cons_zero, List.set_cons_succ]
                refine wpAnyH_take (i := 52) (v := ?vcx52) (by simp only [List.getElem?_toArray, List.getElem?_cons_succ, List.getElem?_cons_zero]; rfl) (by kernel_rfl) (by kernel_rfl) (by kernel_rfl) (by exact fun _ _ _ h => h) (Or.inl ⟨by rfl, ?hcy52⟩) (by assumption) ?rcrest52
                case hcy52 => intro w' hSw; (try dsimp only at hSw); go_simp; (try with_reducible rfl); (try exact HI0.out); (try omega)
                try simp only [Act.put, List.setIfInBounds_toArray, List.set_cons_zero, List.set_cons_succ]
                refine wpAnyH_take (i := 53) (v := ?vcx53) (by simp only [List.getElem?_toArray, List.getElem?_cons_succ, List.getElem?_cons_zero]; rfl) (by kernel_rfl) (by kernel_rfl) (by kernel_rfl) (by exact fun _ _ _ h => h) (Or.inl ⟨by rfl, ?hcy53⟩) (by assumption) ?rcrest53
                case hcy53 => intro w' hSw; (try dsimp only at hSw); go_simp; (try with_reducible rfl); (try exact HI0.out); (try omega)
                try simp only [Act.put, List.setIfInBounds_toArray, List.set_cons_zero, List.set_cons_succ]
                refine wpAnyH_take (i := 54) (v := ?vcx54) (by simp only [List.getElem?_toArray, List.getElem?_cons_succ, List.getElem?_cons_zero]; rfl) (by kernel_rfl) (by kernel_rfl) (by kernel_rfl) (by exact fun _ _ _ h => h) (Or.inl ⟨by rfl, ?hcy54⟩) (by assumption) ?rcrest54
                case hcy54 => intro w' hSw; (try dsimp only at hSw); go_simp; (try with_reducible rfl); (try exact HI0.out); (try omega)
                try simp only [Act.put, List.setIfInBounds_toArray, List.set_cons_zero, List.set_cons_succ]
                refine wpAnyH_take (i := 55) (v := ?vcx55) (by simp only [List.getElem?_toArray, List.getElem?_cons_succ, List.getElem?_cons_zero]; rfl) (by kernel_rfl) (by kernel_rfl) (by kernel_rfl) (by exact fun _ _ _ h => h) (Or.inl ⟨by rfl, ?hcy55⟩) (by assumption) ?rcrest55
                case hcy55 => intro w' hSw; (try dsimp only at hSw); go_simp; (try with_reducible rfl); (try exact HI0.out); (try omega)
                try simp only [Act.put, List.setIfInBounds_toArray, List.set_cons_zero, List.set_cons_succ]
                refine wpAnyH_take (i := 56) (v := .bool false) (by simp only [List.getElem?_toArray, List.getElem?_cons_succ, List.getElem?_cons_zero]; rfl) (by kernel_rfl) (by kernel_rfl) (by kernel_rfl) (by exact fun _ _ _ h => h) (Or.inl ⟨by rfl, ?hcy56⟩) (by assumption) ?rcrest56
                case hcy56 => intro w' hSw; (try dsimp only at hSw); go_simp; (try with_reducible rfl); (try exact HI0.out); (try omega)
                try simp only [Act.put, List.setIfInBounds_toArray, List.set_cons_zero, List.set_cons_succ]
                refine wpAnyH_take (i := 57) (v := .bool false) (by simp only [List.getElem?_toArray, List.getElem?_cons_succ, List.getElem?_cons_zero]; rfl) (by kernel_rfl) (by kernel_rfl) (by kernel_rfl) (by exact fun _ _ _ h => h) (Or.inl ⟨by rfl, ?hcy57⟩) (by assumption) ?rcrest57
                case hcy57 => intro w' hSw; (try dsimp only at hSw); go_simp; (try with_reducible rfl); (try exact HI0.out); (try omega)
                try simp only [Act.put, List.setIfInBounds_toArray, List.set_cons_zero, List.set_cons_succ]
                refine wpAnyH_take (i := 58) (v := .bool false) (by simp only [List.getElem?_toArray, List.getElem?_cons_succ, List.getElem?_cons_zero]; rfl) (by kernel_rfl) (by kernel_rfl) (by kernel_rfl) (by exact fun _ _ _ h => h) (Or.inl ⟨by rfl, ?hcy58⟩) (by assumption) ?rcrest58
                case hcy58 => intro w' hSw; (try dsimp only at hSw); go_simp; (try with_reducible rfl); (try exact HI0.out); (try omega)
                try simp only [Act.put, List.setIfInBounds_toArray, List.set_cons_zero, List.set_cons_succ]
                refine wpAnyH_take (i := 59) (v := .bool false) (by simp only [List.getElem?_toArray, List.getElem?_cons_succ, List.getElem?_cons_zero]; rfl) (by kernel_rfl) (by kernel_rfl) (by kernel_rfl) (by exact fun _ _ _ h => h) (Or.inl ⟨by rfl, ?hcy59⟩) (by assumption) ?rcrest59
                case hcy59 => intro w' hSw; (try dsimp only at hSw); go_simp; (try with_reducible rfl); (try exact HI0.out); (try omega)
                try simp only [Act.put, List.setIfInBounds_toArray, List.set_cons_zero, List.set_cons_succ]
                refine wpAnyH_take (i := 60) (v := .bool false) (by simp only [List.getElem?_toArray, List.getElem?_cons_succ, List.getElem?_cons_zero]; rfl) (by kernel_rfl) (by kernel_rfl) (by kernel_rfl) (by exact fun _ _ _ h => h) (Or.inl ⟨by rfl, ?hcy60⟩) (by assumption) ?rcrest60
                case hcy60 => intro w' hSw; (try dsimp only at hSw); go_simp; (try with_reducible rfl); (try exact HI0.out); (try omega)
                try simp only [Act.put, List.setIfInBounds_toArray, List.set_cons_zero, List.set_cons_succ]
                refine wpAnyH_done (by kernel_rfl) ?_ _
                go_wp2_with fail
                go_meet
                case rel => exact ⟨rfl, hbw1⟩
          case rest =>
            obtain ⟨w8, rfl⟩ : ∃ w8, w8 = wc := ⟨wc, rfl⟩
            obtain ⟨rfl, b8⟩ := hcut
            have hbel8 : Below w6.heap.size w6 w8 := hbel7.trans (b8.mono hsz7)
            have hsz8 := hbel8.size
            clear b8
            obtain ⟨x1, x2, x3⟩ := OwnF.cells (Q6.out.below hbel8) i hlt
            rw [HY.out] at x1 x2 x3
            dsimp only at x1 x2 x3
            go_wp2_with fail
            refine (FC.out _).mono ?_
            intro e w9 hr
            unfold RetFC at hr
            obtain ⟨V2, rfl, hV2, b9⟩ := hr
            have hbel9 : Below w6.heap.size w6 w9 := hbel8.trans (b9.mono hsz8)
            have hsz9 := hbel9.size
            have QC := Lib.hid hV2
            obtain ⟨ao2, cap2, hv2⟩ := hV2.len
            subst hv2
            clear hV2 b9 x1 x2 x3 DX IX FC
            go_wp2_with fail
            go_loopg [16, 17] i (fun k s u wr => ∃ m : Nat, m + k = i ∧ u = .int .i64 m ∧ (∃ bq : Bool, s = .bool (!bq) ∧ (L.take m).any (fun y => C.any (fun z => eqFm z y)) = bq) ∧ Below w9.heap.size w9 wr)
            case atStart => exact ⟨0, by omega, rfl, ⟨false, rfl, rfl⟩, Below.refl _ _⟩
            case round =>
              obtain ⟨m, hmk, rfl, ⟨bq, rfl, hq⟩, hbel10⟩ := hrel
              have hsz10 := hbel10.size
              cases bq
              · by_cases hmi : m < i
                · have hml : m < L.length := by omega
                  obtain ⟨k2, rfl⟩ : ∃ k2, gk = k2 + 1 := ⟨gk - 1, by omega⟩
                  have HQ := Lib.hid hq
                  have hsucc := Lib.hid (take_any_succ hml hq)
                  clear hq
                  obtain ⟨t, ht⟩ : ∃ t, L[m] = t := ⟨_, rfl⟩
                  have HTm := Lib.hid ht
                  rw [ht] at hsucc
                  clear ht
                  have m0 : (0 : Int) ≤ (m : Int) := by omega
                  have m1 : (m : Int) < (L.length : Int) := by omega
                  have mi : (m : Int) < (i : Int) := by omega
                  obtain ⟨wo, hwo⟩ : ∃ wo : World, wo = wr := ⟨_, rfl⟩
                  subst hwo
                  go_wp2_with fail
                  go_loopg [16, 18] C.length (fun k s u wr => ∃ j : Nat, j + k = C.length ∧ u = .int .i64 j ∧ (∃ bq : Bool, s = .bool (!bq) ∧ (C.take j).any (fun z => eqFm z t) = bq) ∧ Below w9.heap.size w9 wr)
                  case atStart => exact ⟨0, by omega, rfl, ⟨false, rfl, rfl⟩, hbel10⟩
                  case round =>
                    obtain ⟨j, hjk, rfl, ⟨bq, rfl, hq⟩, hbel11⟩ := hrel
                    have hsz11 := hbel11.size
                    have hbel12 : Below w6.heap.size w6 wr := hbel9.trans (hbel11.mono hsz9)
                    cases bq
                    · by_cases hjl : j < C.length
                      · have hsj := Lib.hid (take_any_succ hjl hq)
                        clear hq
                        obtain ⟨b2, c1, hv, hlb⟩ : ∃ b c1, Value.slice ao2 C.length cap2 = .slice (some ⟨b, 0, none⟩) C.length c1 ∧ b < w9.heap.size := by
                          rcases QC.out.shape with ⟨h, _⟩ | ⟨_, g, cp, h, _, hl, _⟩
                          · rw [h] at hjl
                            simp at hjl
                          · exact ⟨g, cp, h, hl⟩
                        cases hv
                        obtain ⟨x1, x2, x3⟩ := OwnF.cells (Q6.out.below hbel12) m hml
                        rw [HTm.out] at x1 x2 x3
                        obtain ⟨y1, y2, y3⟩ := OwnF.cells (QC.out.below hbel11) j hjl
                        obtain ⟨s, hs⟩ : ∃ s, C[j] = s := ⟨_, rfl⟩
                        rw [hs] at y1 y2 y3 hsj
                        clear hs
                        obtain ⟨sa, sb, sc⟩ := s
                        obtain ⟨ta, tb, tc⟩ := t
                        dsimp only at x1 x2 x3 y1 y2 y3
                        have j0 : (0 : Int) ≤ (j : Int) := by omega
                        have j1 : (j : Int) < (C.length : Int) := by omega
                        have n1 := neqF ta tb tc sa sb sc
                        have HE : Hid (eq6 ta tb tc sa sb sc = eqFm ⟨sa, sb, sc⟩ ⟨ta, tb, tc⟩) := Lib.hid (show eqFm ⟨ta, tb, tc⟩ ⟨sa, sb, sc⟩ = _ from eqFm_symm _ _)
                        generalize eq6 ta tb tc sa sb sc = ee at n1 HE
                        go_wp2_with fail
                        go_quiet (fail)
                        go_wp2_with fail
                        go_roundg (gk - 1)
                        case measure => omega
                        case rel => exact ⟨j + 1, by omega, by go_num, ⟨ee, rfl, by rw [hsj.out, HE.out]⟩, below_drewN hbel11 nq⟩
                      · have ej : j = C.length := by omega
                        subst ej
                        rw [List.take_length] at hq
                        have hjn : ¬ (C.length : Int) < (C.length : Int) := by omega
                        go_wp2_with fail
                        go_roundg k2
                        case measure => omega
                        case rel => exact ⟨m + 1, by omega, by go_num, ⟨false, rfl, by rw [hsucc.out]; exact hq⟩, hbel11⟩
                    · have hq2 := take_any_all hq
                      have hjb : (∃ bj, decide ((j : Int) < (C.length : Int)) = bj) := ⟨_, rfl⟩
                      by_cases hjl : (j : Int) < (C.length : Int)
                      · go_wp2_with fail
                        go_roundg k2
                        case measure => omega
                        case rel => exact ⟨m + 1, by omega, by go_num, ⟨true, rfl, by rw [hsucc.out]; exact hq2⟩, hbel11⟩
                      · go_wp2_with fail
                        go_roundg k2
                        case measure => omega
                        case rel => exact ⟨m + 1, by omega, by go_num, ⟨true, rfl, by rw [hsucc.out]; exact hq2⟩, hbel11⟩
                · have em : m = i := by omega
                  subst em
                  have HE1 : Hid (clF L (m + 1) = clF L m + 1) := Lib.hid (by rw [HC3.out, hq]; rfl)
                  clear hq
                  have hmn : ¬ (m : Int) < (m : Int) := by omega
                  go_wp2_with fail
                  go_roundg k1
                  case measure => omega
                  case rel => exact ⟨m + 1, by omega, by go_num, by rw [HE1.out]; go_num, hbel9.trans (hbel10.mono hsz9)⟩
              · have hq2 := take_any (i := i) (by omega) hq
                have HE1 : Hid (clF L (i + 1) = clF L i) := Lib.hid (by rw [HC3.out, hq2]; rfl)
                clear hq hq2
                by_cases hmi : (m : Int) < (i : Int)
                · go_wp2_with fail
                  go_roundg k1
                  case measure => omega
                  case rel => exact ⟨i + 1, by omega, by go_num, by rw [HE1.out], hbel9.trans (hbel10.mono hsz9)⟩
                · go_wp2_with fail
                  go_roundg k1
                  case measure => omega
                  case rel => exact ⟨i + 1, by omega, by go_num, by rw [HE1.out], hbel9.trans (hbel10.mono hsz9)⟩
        · have EQ : i = L.length := by omega
          subst EQ
          have hNb : (((clF L L.length : Nat) : Int) == N) = true := by rw [HN.out]; simp
          have HTr := Lib.hid (HT.out.below (B6.out.trans (hbel.mono B6.out.size)))
          have Fr := blkK F6.out hbel (blk_lt F6.out)
          have hBr : Below w.heap.size w wr := B6.out.trans (hbel.mono B6.out.size)
          obtain ⟨zF, p1, p2, p3, g1, g2, g3⟩ := blk3 Fr
          have hR2 : ¬ R.toList = [] := fun h => HRne.out (by rw [Lib.toList_data] at h; apply ByteArray.ext; apply Array.ext'; exact h)
          have hR3 : decide (R.toList = []) = false := decide_eq_false hR2
          have hR4 : R.toList.isEmpty = false := by rw [List.isEmpty_eq_false_iff]; exact hR2
          have hnn : ¬ (L.length : Int) < (L.length : Int) := by omega
          go_wp2_with fail
          refine (FT.out _ HTr.out).mono ?_
          rintro e wz ⟨rfl, bz⟩
          have hBz : Below w.heap.size w wz := hBr.trans (bz.mono hBr.size)
          clear bz p1 p2 p3 g1 g2 g3
          go_wp2_with fail
          go_ret
          exact ⟨by first | rfl | simp [hR2, hR3, hR4], hBz⟩
end Go.Proofs.YtolbihoeheogkaaDoor
