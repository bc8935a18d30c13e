/- A form has the value by the numbers that are told, and the counts are even: the walk. -/
import Derived.Test.YtodbmnbahldabaaDoorShE
import Derived.Test.YtodbmnbahldabaaDoorShT
import Derived.BigQuiet
import Derived.Deep.DeepCutAuto
namespace Go.Proofs.YtodbmnbahldabaaDoor
open Go.ChangeShapes Go.WideShapes Go.ChangeAt Go.RowKit
set_option linter.unusedVariables false
set_option maxHeartbeats 8000000
set_option maxRecDepth 20000
theorem stoodFm : Tryd.prog.stoodInHeld 25 = false := by kernel_rfl
theorem guardFm : Tryd.prog.eqGuardType Tryd.prog.depth 25 = false := by kernel_rfl
theorem fieldsFm : Tryd.prog.underlying 25 = some (.struct (Tryd.prog.fieldsOf 25)) := by kernel_rfl
theorem neqFm (a b c : Int) (w : World) : (binOp .neq 25 (.agg #[.int .i64 a, .int .i64 b, .int .i64 c]) (.agg #[.int .i64 a, .int .i64 b, .int .i64 c])).run Tryd.prog w = .ok (.bool false) w := by
  rw [run_neq_struct, run_equalIn_struct w 9999 25 _ _ fieldsFm stoodFm]
  simp [go_sem, Tryd.underlying25, Tryd.underlying2]
theorem lenFm (a : Option Addr) (n c : Nat) (V : World) : Sem.run Tryd.prog (Builtin.len_ #[40] 3 #[.slice a n c]) V = .ok (.int .i64 n) V := by
  simp [Builtin.len_, go_sem]
theorem f6big_any (ao : Option Addr) (n cap : Nat) (w : World) :
    Calls Tryd.prog 8 #[.slice ao n cap] w fun e w' => e = .returned (.bool (decide (4096 < n))) ∧ w = w' := by
  by_cases h : 4096 < n
  · have h1 : (4096 : Int) < (n : Int) := by omega
    go_enter Tryd.func8, Tryd.ntmps8
    go_wp2_with fail
    go_ret
    exact ⟨ret_bool (by first | (simp; done) | (simp [h]; done)), rfl⟩
  · have h1 : ¬ (4096 : Int) < (n : Int) := by omega
    go_enter Tryd.func8, Tryd.ntmps8
    go_wp2_with fail
    go_ret
    exact ⟨ret_bool (by first | (simp; done) | (simp [h]; done)), rfl⟩
/-- The numbers of a list stand in a row. -/
def RowI (w : World) (ao : Option Addr) (L : List Int) : Prop := L = [] ∨ ∃ b, ao = some ⟨b, 0, none⟩ ∧ ∀ j, (h : j < L.length) → w.cell? ⟨b, j, none⟩ = some (.int .i64 L[j])
theorem RowI.kept {W w : World} {ao : Option Addr} {L : List Int} (h : RowI W ao L) (hk : Kept W w) : RowI w ao L := by
  rcases h with h | ⟨b, h1, h2⟩
  · exact .inl h
  · refine .inr ⟨b, h1, fun j hj => ?_⟩
    have h3 := h2 j hj
    rw [hk.2 b j (cell_lt h3)]
    exact h3
theorem OwnI.row {w : World} {B n cap : Nat} {ao : Option Addr} {L : List Int} (h : OwnI w B (.slice ao n cap) L) (hn : L.length = n) : RowI w ao L := by
  subst hn
  rcases h.shape with ⟨h1, _⟩ | ⟨_, g, cp, h1, _⟩
  · exact .inl h1
  · simp only [Value.slice.injEq] at h1
    obtain ⟨rfl, -, rfl⟩ := h1
    exact .inr ⟨g, rfl, fun j hj => OwnI.cells h j hj⟩
theorem f6ints_any (L : List Int) (hl : L.length ≤ 1000000) (ao bo : Option Addr) (c1 c2 : Nat) (w : World) (h1 : RowI w ao L) (h2 : RowI w bo L) :
    Calls Tryd.prog 20 #[.slice ao L.length c1, .slice bo L.length c2] w fun e w' => e = .returned (.bool true) ∧ Below w.heap.size w w' := by
  have H1 := Lib.hid h1
  have H2 := Lib.hid h2
  clear h1 h2
  go_enter Tryd.func20, Tryd.ntmps20
  go_wp2_with fail
  go_loopg [5] L.length (fun k u wr => ∃ i : Nat, i + k = L.length ∧ u = .int .i64 i ∧ Below w.heap.size w wr)
  case atStart => exact ⟨0, by omega, rfl, Below.refl _ _⟩
  case round =>
    obtain ⟨i, hik, rfl, hbel⟩ := hrel
    by_cases hlt : i < L.length
    · rcases H1.out with h | ⟨b1, rfl, hb1⟩
      · rw [h] at hlt; simp at hlt
      rcases H2.out with h | ⟨b2, rfl, hb2⟩
      · rw [h] at hlt; simp at hlt
      have x1 := hb1 i hlt
      have x2 := hb2 i hlt
      have y1 : wr.cell? ⟨b1, i, none⟩ = some (.int .i64 L[i]) := (World.cell?_of_block (w := w) (a := ⟨b1, i, none⟩) (hbel.block b1 (cell_lt x1))).trans x1
      have y2 : wr.cell? ⟨b2, i, none⟩ = some (.int .i64 L[i]) := (World.cell?_of_block (w := w) (a := ⟨b2, i, none⟩) (hbel.block b2 (cell_lt x2))).trans x2
      clear x1 x2 hb1 hb2
      generalize L[i] = v at *
      have i0 : (0 : Int) ≤ (i : Int) := by omega
      have i1 : (i : Int) < (L.length : Int) := by omega
      go_wp2_with fail
      go_quiet (fail)
      go_wp2_with fail
      go_roundg (gk - 1)
      case measure => omega
      case rel => exact ⟨i + 1, by omega, by go_num, below_drewN hbel nq⟩
    · have i1 : ¬ (i : Int) < (L.length : Int) := by omega
      go_wp2_with fail
      go_ret
      exact ⟨rfl, hbel⟩
theorem ff_len (d n : Int) : (ffR d n).length ≤ 10000 := by
  unfold ffR
  split
  · rename_i h
    have hd := inR_iff.1 (cff_zero h).2.1
    have h1 := ffP_len n (allF d) (allF d).length
    have h2 := all_len hd
    omega
  · simp
theorem rep_zero {a b c n : Int} (h : (repR a b c n).2.2 = 0) : ∃ px py : Int, ∀ w : World, Calls Tryd.prog 10 #[.agg #[.int .i64 a, .int .i64 b, .int .i64 c], .int .i64 n] w fun e w' => e = .returned (.tuple #[.int .i64 px, .int .i64 py, .int .i64 0]) ∧ Below w.heap.size w w' := by
  refine ⟨(repR a b c n).1, (repR a b c n).2.1, fun w => ?_⟩
  have H := iRepresentBy_any a b c n w
  rw [h] at H
  exact H
theorem walk_FnShown (a : Option Addr) (len cap : Nat) (z : List Int) {w : World} (hr : IsRow .u8 w a len cap z) (ht : Tab w) :
    Calls Tryd.prog 4 #[.slice a len cap] w fun e w' => e = .returned (.bool true) ∧ Below w.heap.size w w' := by
  have HT := Lib.hid ht
  have HR := Lib.hid hr.bytes
  clear hr ht
  by_cases hbig : 4096 < len
  · have F6 := Lib.hid (by have h := f6big_any a len cap; rw [decide_eq_true hbig] at h; exact h)
    go_enter Tryd.func4, Tryd.ntmps4
    go_wp2_with (go_at_call 8; refine (F6.out _).mono ?_; rintro e w1 ⟨rfl, rfl⟩)
    go_ret
    exact ⟨rfl, (by repeat' (first | (with_reducible exact Below.refl _ _) | (with_reducible assumption) | (with_reducible refine Below.setCell ?_ ?_ _) | (with_reducible refine Below.alloc ?_ ?_ _) | (with_reducible refine Below.drew ?_) | (with_reducible refine below_drewN ?_ _) | (with_reducible refine Below.trans ?_ (Below.mono (by with_reducible assumption) ?_)) | go_size | (simp at *; omega)))⟩
  · have F6 := Lib.hid (by have h := f6big_any a len cap; rw [decide_eq_false hbig] at h; exact h)
    have hl : len ≤ 4096 := by omega
    clear hbig
    go_enter Tryd.func4, Tryd.ntmps4
    go_wp2_with (go_at_call 8; refine (F6.out _).mono ?_; rintro e w1 ⟨rfl, rfl⟩)
    go_wp2_with fail
    refine (drawRepresentBy_any a len cap w HR.out hl).mono ?_
    rintro e w1 ⟨f1, f2, f3, n, rfl, hp, hn, b1⟩
    have B1 := Lib.hid b1
    clear b1
    obtain ⟨x, y, code, count, c2, q1, q2, q3, q4, q5, q6⟩ := sh_all (n := n) hp
    have R1 := Lib.hid (fun w => by have h := iRepresentBy_any f1 f2 f3 n w; rw [q1] at h; exact h)
    have R2 := Lib.hid (fun w => by have h := sRepresentBy_any f1 f2 f3 n w; rw [q1] at h; exact h)
    have C1 := Lib.hid (fun w => by have h := iCountRepresent_any f1 f2 f3 n w; rw [q2] at h; exact h)
    have C2 := Lib.hid (fun w => by have h := sCountRepresent_any f1 f2 f3 n w; rw [q2] at h; exact h)
    have TI := Lib.hid (fun w ht => iSN_any f1 f2 f3 n (by omega) w ht)
    have TS := Lib.hid (fun w => sSN_any f1 f2 f3 n (by omega) w)
    generalize snR f1 f2 f3 n = TX at TI TS
    have FA := Lib.hid (fun (hc : code = 0) w => by have h := formAt_any f1 f2 f3 x y w; rw [(q6 hc).2] at h; exact h)
    have H5 := Lib.hid q5
    clear q1 q2 q5 q6 hp
    go_wp2_with fail
    obtain ⟨w2, hW⟩ : ∃ w', w' = (w1.alloc (.cells #[.int .i64 f1, .int .i64 f2, .int .i64 f3] 25)) := ⟨_, rfl⟩
    have bW : Below w1.heap.size w1 w2 := by rw [hW]; exact (by repeat' (first | (with_reducible exact Below.refl _ _) | (with_reducible assumption) | (with_reducible refine Below.setCell ?_ ?_ _) | (with_reducible refine Below.alloc ?_ ?_ _) | (with_reducible refine Below.drew ?_) | (with_reducible refine below_drewN ?_ _) | (with_reducible refine Below.trans ?_ (Below.mono (by with_reducible assumption) ?_)) | go_size | (simp at *; omega)))
    have F2 : Hid (heapAt w2 (w1.heap.size) = some (.cells #[.int .i64 f1, .int .i64 f2, .int .i64 f3] 25 (0, 0))) := Lib.hid (by rw [hW]; exact heapAt_new _ _)
    have B2 : Hid (Below w.heap.size w w2) := Lib.hid (B1.out.trans (bW.mono B1.out.size))
    rw [← hW]
    clear hW bW
    have cF := F2.out
    obtain ⟨zF, pF0, pF1, pF2, fF0, fF1, fF2⟩ := blk3 cF
    go_wp2_with fail
    refine (R1.out _).mono ?_
    rintro e w3 ⟨rfl, b3⟩
    have F3 : Hid (heapAt w3 (w1.heap.size) = some (.cells #[.int .i64 f1, .int .i64 f2, .int .i64 f3] 25 (0, 0))) := Lib.hid (blkK F2.out b3 (blk_lt F2.out))
    have B3 : Hid (Below w.heap.size w w3) := Lib.hid (B2.out.trans (b3.mono B2.out.size))
    clear b3
    clear pF0 pF1 pF2 fF0 fF1 fF2 cF
    have cF := F3.out
    obtain ⟨zF, pF0, pF1, pF2, fF0, fF1, fF2⟩ := blk3 cF
    go_wp2_with fail
    refine (R2.out _).mono ?_
    rintro e w4 ⟨rfl, b4⟩
    have F4 : Hid (heapAt w4 (w1.heap.size) = some (.cells #[.int .i64 f1, .int .i64 f2, .int .i64 f3] 25 (0, 0))) := Lib.hid (blkK F3.out b4 (blk_lt F3.out))
    have B4 : Hid (Below w.heap.size w w4) := Lib.hid (B3.out.trans (b4.mono B3.out.size))
    clear b4
    clear pF0 pF1 pF2 fF0 fF1 fF2 cF
    have cF := F4.out
    obtain ⟨zF, pF0, pF1, pF2, fF0, fF1, fF2⟩ := blk3 cF
    go_wp2_with fail
    refine (C1.out _).mono ?_
    rintro e w5 ⟨rfl, b5⟩
    have F5 : Hid (heapAt w5 (w1.heap.size) = some (.cells #[.int .i64 f1, .int .i64 f2, .int .i64 f3] 25 (0, 0))) := Lib.hid (blkK F4.out b5 (blk_lt F4.out))
    have B5 : Hid (Below w.heap.size w w5) := Lib.hid (B4.out.trans (b5.mono B4.out.size))
    clear b5
    clear pF0 pF1 pF2 fF0 fF1 fF2 cF
    have cF := F5.out
    obtain ⟨zF, pF0, pF1, pF2, fF0, fF1, fF2⟩ := blk3 cF
    go_wp2_with fail
    refine (C2.out _).mono ?_
    rintro e w6 ⟨rfl, b6⟩
    have F6 : Hid (heapAt w6 (w1.heap.size) = some (.cells #[.int .i64 f1, .int .i64 f2, .int .i64 f3] 25 (0, 0))) := Lib.hid (blkK F5.out b6 (blk_lt F5.out))
    have B6 : Hid (Below w.heap.size w w6) := Lib.hid (B5.out.trans (b6.mono B5.out.size))
    clear b6
    clear pF0 pF1 pF2 fF0 fF1 fF2 cF
    go_wp2_with fail
    refine (drawShownBy_any a len cap _ ((HR.out.below B6.out (Nat.le_refl _)).mono B6.out.size) hl).mono ?_
    rintro e w7 ⟨g1, g2, g3, m, rfl, -, -, b7⟩
    have F7 : Hid (heapAt w7 (w1.heap.size) = some (.cells #[.int .i64 f1, .int .i64 f2, .int .i64 f3] 25 (0, 0))) := Lib.hid (blkK F6.out b7 (blk_lt F6.out))
    have B7 : Hid (Below w.heap.size w w7) := Lib.hid (B6.out.trans (b7.mono B6.out.size))
    clear b7
    have S1 := Lib.hid (fun w => iShownBy_any g1 g2 g3 m w)
    have S2 := Lib.hid (fun w => sShownBy_any g1 g2 g3 m w)
    have hSl := shR_len g1 g2 g3 m
    have HSE := Lib.hid (sh_each (a := g1) (b := g2) (c := g3) (most := m))
    generalize shR g1 g2 g3 m = K at *
    generalize chS g1 g2 g3 (inR m 0 300) = kc at *
    go_wp2_with fail
    obtain ⟨w8, hW⟩ : ∃ w', w' = (w7.alloc (.cells #[.int .i64 g1, .int .i64 g2, .int .i64 g3] 25)) := ⟨_, rfl⟩
    have bW : Below w7.heap.size w7 w8 := by rw [hW]; exact (by repeat' (first | (with_reducible exact Below.refl _ _) | (with_reducible assumption) | (with_reducible refine Below.setCell ?_ ?_ _) | (with_reducible refine Below.alloc ?_ ?_ _) | (with_reducible refine Below.drew ?_) | (with_reducible refine below_drewN ?_ _) | (with_reducible refine Below.trans ?_ (Below.mono (by with_reducible assumption) ?_)) | go_size | (simp at *; omega)))
    have G8 : Hid (heapAt w8 (w7.heap.size) = some (.cells #[.int .i64 g1, .int .i64 g2, .int .i64 g3] 25 (0, 0))) := Lib.hid (by rw [hW]; exact heapAt_new _ _)
    have F8 : Hid (heapAt w8 (w1.heap.size) = some (.cells #[.int .i64 f1, .int .i64 f2, .int .i64 f3] 25 (0, 0))) := Lib.hid (blkK F7.out bW (blk_lt F7.out))
    have B8 : Hid (Below w.heap.size w w8) := Lib.hid (B7.out.trans (bW.mono B7.out.size))
    rw [← hW]
    clear hW bW
    have cG := G8.out
    obtain ⟨zG, pG0, pG1, pG2, fG0, fG1, fG2⟩ := blk3 cG
    go_wp2_with fail
    refine (S1.out _).mono ?_
    intro e w9 hr
    unfold RetL at hr
    obtain ⟨V1, rfl, hV1, b9⟩ := hr
    have F9 : Hid (heapAt w9 (w1.heap.size) = some (.cells #[.int .i64 f1, .int .i64 f2, .int .i64 f3] 25 (0, 0))) := Lib.hid (blkK F8.out b9 (blk_lt F8.out))
    have G9 : Hid (heapAt w9 (w7.heap.size) = some (.cells #[.int .i64 g1, .int .i64 g2, .int .i64 g3] 25 (0, 0))) := Lib.hid (blkK G8.out b9 (blk_lt G8.out))
    have B9 : Hid (Below w.heap.size w w9) := Lib.hid (B8.out.trans (b9.mono B8.out.size))
    clear b9
    clear pG0 pG1 pG2 fG0 fG1 fG2 cG
    have P19 := Lib.hid hV1
    obtain ⟨ao1, cp1, hv⟩ := hV1.len
    subst hv
    clear hV1
    have cG := G9.out
    obtain ⟨zG, pG0, pG1, pG2, fG0, fG1, fG2⟩ := blk3 cG
    go_wp2_with fail
    refine (S2.out _).mono ?_
    intro e w10 hr
    unfold RetL at hr
    obtain ⟨V2, rfl, hV2, b10⟩ := hr
    have F10 : Hid (heapAt w10 (w1.heap.size) = some (.cells #[.int .i64 f1, .int .i64 f2, .int .i64 f3] 25 (0, 0))) := Lib.hid (blkK F9.out b10 (blk_lt F9.out))
    have G10 : Hid (heapAt w10 (w7.heap.size) = some (.cells #[.int .i64 g1, .int .i64 g2, .int .i64 g3] 25 (0, 0))) := Lib.hid (blkK G9.out b10 (blk_lt G9.out))
    have P110 := Lib.hid (P19.out.below b10)
    have B10 : Hid (Below w.heap.size w w10) := Lib.hid (B9.out.trans (b10.mono B9.out.size))
    clear b10
    clear pG0 pG1 pG2 fG0 fG1 fG2 cG
    have P210 := Lib.hid hV2
    obtain ⟨ao2, cp2, hv⟩ := hV2.len
    subst hv
    clear hV2
    go_wp2_with fail
    refine (drawFormsFor_any a len cap _ ((HR.out.below B10.out (Nat.le_refl _)).mono B10.out.size) hl).mono ?_
    rintro e w11 ⟨d, k, rfl, b11⟩
    have F11 : Hid (heapAt w11 (w1.heap.size) = some (.cells #[.int .i64 f1, .int .i64 f2, .int .i64 f3] 25 (0, 0))) := Lib.hid (blkK F10.out b11 (blk_lt F10.out))
    have G11 : Hid (heapAt w11 (w7.heap.size) = some (.cells #[.int .i64 g1, .int .i64 g2, .int .i64 g3] 25 (0, 0))) := Lib.hid (blkK G10.out b11 (blk_lt G10.out))
    have P111 := Lib.hid (P110.out.below b11)
    have P211 := Lib.hid (P210.out.below b11)
    have B11 : Hid (Below w.heap.size w w11) := Lib.hid (B10.out.trans (b11.mono B10.out.size))
    clear b11
    have E1 := Lib.hid (fun w => iFormsFor_any d k w)
    have E2 := Lib.hid (fun w => sFormsFor_any d k w)
    have hFl := ff_len d k
    generalize ffR d k = L at *
    generalize cffR d k = fc at *
    go_wp2_with fail
    refine (E1.out _).mono ?_
    intro e w12 hr
    unfold RetFC at hr
    obtain ⟨V3, rfl, hV3, b12⟩ := hr
    have F12 : Hid (heapAt w12 (w1.heap.size) = some (.cells #[.int .i64 f1, .int .i64 f2, .int .i64 f3] 25 (0, 0))) := Lib.hid (blkK F11.out b12 (blk_lt F11.out))
    have G12 : Hid (heapAt w12 (w7.heap.size) = some (.cells #[.int .i64 g1, .int .i64 g2, .int .i64 g3] 25 (0, 0))) := Lib.hid (blkK G11.out b12 (blk_lt G11.out))
    have P112 := Lib.hid (P111.out.below b12)
    have P212 := Lib.hid (P211.out.below b12)
    have B12 : Hid (Below w.heap.size w w12) := Lib.hid (B11.out.trans (b12.mono B11.out.size))
    clear b12
    have P312 := Lib.hid hV3
    obtain ⟨ao3, cp3, hv⟩ := hV3.len
    subst hv
    clear hV3
    go_wp2_with fail
    refine (E2.out _).mono ?_
    intro e w13 hr
    unfold RetFC at hr
    obtain ⟨V4, rfl, hV4, b13⟩ := hr
    have F13 : Hid (heapAt w13 (w1.heap.size) = some (.cells #[.int .i64 f1, .int .i64 f2, .int .i64 f3] 25 (0, 0))) := Lib.hid (blkK F12.out b13 (blk_lt F12.out))
    have G13 : Hid (heapAt w13 (w7.heap.size) = some (.cells #[.int .i64 g1, .int .i64 g2, .int .i64 g3] 25 (0, 0))) := Lib.hid (blkK G12.out b13 (blk_lt G12.out))
    have P113 := Lib.hid (P112.out.below b13)
    have P213 := Lib.hid (P212.out.below b13)
    have P313 := Lib.hid (P312.out.below b13)
    have B13 : Hid (Below w.heap.size w w13) := Lib.hid (B12.out.trans (b13.mono B12.out.size))
    clear b13
    have P413 := Lib.hid hV4
    obtain ⟨ao4, cp4, hv⟩ := hV4.len
    subst hv
    clear hV4
    have HT13 := Lib.hid (HT.out.below B13.out)
    have FI := Lib.hid (fun W (hk : Kept w13 W) => f6ints_any K (by omega) ao1 ao2 cp1 cp2 W ((OwnI.row P113.out rfl).kept hk) ((OwnI.row P213.out rfl).kept hk))
    have e1 := lenFm
    have n4 := guardFm
    have cF := F13.out
    obtain ⟨zF, pF0, pF1, pF2, fF0, fF1, fF2⟩ := blk3 cF
    go_wp2_with fail
    go_region_held3 (fun w' => Kept w13 w') (repeat (first | (with_reducible assumption) | (with_reducible exact kept_refl _) | (with_reducible exact kept_other (by with_reducible assumption) (by first | omega | (simp; done) | (simp; omega))) | (with_reducible refine kept_alloc ?_) | (with_reducible refine kept_drew ?_) | (with_reducible refine kept_set ?_ (by first | omega | (simp; done) | (simp; omega))) | (with_reducible refine kept_call ?_ hb1))) (first | (go_at_call 20; with_reducible refine (FI.out _ ?hk).mono ?_; (case hk => first | (with_reducible assumption) | exact kept_refl _ | assumption); rintro e w1 ⟨rfl, hb1⟩; obtain ⟨hc1, hf1, hl1, hB1⟩ := bcell hb1; (try simp only [World.size_drew, cell_drew, frozen_drew, heapAt_drew] at hc1 hf1 hl1 hB1); have hz1 := hb1.size; (try simp at hz1); (try have hkA := hl1 _ hkA); (try have hkA : _ < w1.heap.size := hz1); (try have hkW : w13.heap.size < w1.heap.size := by omega); (try have hk0 : w.heap.size < w1.heap.size := by omega); (try have hk1 : w.heap.size + 1 < w1.heap.size := by omega); (try have hk2 : w.heap.size + 1 + 1 < w1.heap.size := by omega)) | (go_at_call 7; with_reducible refine (TI.out _ (tab_kept ?hk HT13.out)).mono ?_; (case hk => first | (with_reducible assumption) | exact kept_refl _ | assumption); rintro e w1 ⟨rfl, hb1⟩; obtain ⟨hc1, hf1, hl1, hB1⟩ := bcell hb1; (try simp only [World.size_drew, cell_drew, frozen_drew, heapAt_drew] at hc1 hf1 hl1 hB1); have hz1 := hb1.size; (try simp at hz1); (try have hkA := hl1 _ hkA); (try have hkA : _ < w1.heap.size := hz1); (try have hkW : w13.heap.size < w1.heap.size := by omega); (try have hk0 : w.heap.size < w1.heap.size := by omega); (try have hk1 : w.heap.size + 1 < w1.heap.size := by omega); (try have hk2 : w.heap.size + 1 + 1 < w1.heap.size := by omega)) | (go_at_call 5; with_reducible refine (TS.out _).mono ?_; rintro e w1 ⟨rfl, hb1⟩; obtain ⟨hc1, hf1, hl1, hB1⟩ := bcell hb1; (try simp only [World.size_drew, cell_drew, frozen_drew, heapAt_drew] at hc1 hf1 hl1 hB1); have hz1 := hb1.size; (try simp at hz1); (try have hkA := hl1 _ hkA); (try have hkA : _ < w1.heap.size := hz1); (try have hkW : w13.heap.size < w1.heap.size := by omega); (try have hk0 : w.heap.size < w1.heap.size := by omega); (try have hk1 : w.heap.size + 1 < w1.heap.size := by omega); (try have hk2 : w.heap.size + 1 + 1 < w1.heap.size := by omega)))
    have BX : Below w13.heap.size w13 w1 := (by repeat' (first | (with_reducible exact Below.refl _ _) | (with_reducible assumption) | (with_reducible refine Below.setCell ?_ ?_ _) | (with_reducible refine Below.alloc ?_ ?_ _) | (with_reducible refine Below.drew ?_) | (with_reducible refine below_drewN ?_ _) | (with_reducible refine Below.trans ?_ (Below.mono (by with_reducible assumption) ?_)) | go_size | (simp at *; omega)))
    have FV := Lib.hid (blkK F13.out BX (blk_lt F13.out))
    have GV := Lib.hid (blkK G13.out BX (blk_lt G13.out))
    have PV1 := Lib.hid (P113.out.below BX)
    have PV2 := Lib.hid (P213.out.below BX)
    have PV3 := Lib.hid (P313.out.below BX)
    have PV4 := Lib.hid (P413.out.below BX)
    have BV := Lib.hid (B13.out.trans (BX.mono B13.out.size))
    clear hb1 hc1 hf1 hl1 hB1 hz1 BX
    clear pF0 pF1 pF2 fF0 fF1 fF2 cF
    clear F2 F3 F4 F5 F6
    obtain ⟨V, hVV⟩ : ∃ V, V = w1 := ⟨_, rfl⟩
    rw [← hVV] at FV GV PV1 PV2 PV3 PV4 BV
    rw [← hVV]
    clear hVV
    go_wp2_with fail
    go_loopg [27] L.length (fun k u wr => ∃ i : Nat, i + k = L.length ∧ u = .int .i64 i ∧ Below V.heap.size V wr)
    case atStart => exact ⟨0, by omega, rfl, Below.refl _ _⟩
    case round =>
      obtain ⟨i, hik, rfl, hbel⟩ := hrel
      have hsz := hbel.size
      by_cases hlt : i < L.length
      · obtain ⟨b3, cc3, hv3, hlb3⟩ : ∃ b c1, Value.slice ao3 L.length cp3 = .slice (some ⟨b, 0, none⟩) L.length c1 ∧ b < V.heap.size := by
          rcases PV3.out.shape with ⟨h, _⟩ | ⟨_, g, cp, h, _, hl, _⟩
          · rw [h] at hlt; simp at hlt
          · exact ⟨g, cp, h, hl⟩
        obtain ⟨b4, cc4, hv4, hlb4⟩ : ∃ b c1, Value.slice ao4 L.length cp4 = .slice (some ⟨b, 0, none⟩) L.length c1 ∧ b < V.heap.size := by
          rcases PV4.out.shape with ⟨h, _⟩ | ⟨_, g, cp, h, _, hl, _⟩
          · rw [h] at hlt; simp at hlt
          · exact ⟨g, cp, h, hl⟩
        cases hv3
        cases hv4
        obtain ⟨x1, x2, x3⟩ := OwnF.cells (PV3.out.below hbel) i hlt
        obtain ⟨y1, y2, y3⟩ := OwnF.cells (PV4.out.below hbel) i hlt
        obtain ⟨s, hs⟩ : ∃ s, L[i] = s := ⟨_, rfl⟩
        rw [hs] at x1 x2 x3 y1 y2 y3
        clear hs
        obtain ⟨sa, sb, sc⟩ := s
        dsimp only at x1 x2 x3 y1 y2 y3
        have i0 : (0 : Int) ≤ (i : Int) := by omega
        have i1 : (i : Int) < (L.length : Int) := by omega
        have n1 := neqFm sa sb sc
        go_wp2_with fail
        go_quiet (fail)
        go_wp2_with fail
        go_roundg (gk - 1)
        case measure => omega
        case rel => exact ⟨i + 1, by omega, by go_num, below_drewN hbel nq⟩
      · have i1 : ¬ (i : Int) < (L.length : Int) := by omega
        obtain ⟨W, hWW⟩ : ∃ W, W = wr := ⟨_, rfl⟩
        have FW := Lib.hid (blkK FV.out hbel (blk_lt FV.out))
        have GW := Lib.hid (blkK GV.out hbel (blk_lt GV.out))
        have PW := Lib.hid (PV2.out.below hbel)
        have BW := Lib.hid (BV.out.trans (hbel.mono BV.out.size))
        rw [← hWW] at FW GW PW BW
        rw [← hWW]
        clear hWW hbel hsz
        go_upto_region 21 with fail
        go_cut [12, 184] (fun s12 s184 wx => s12 = .int .i64 c2 ∧ s184 = .bool false ∧ W = wx)
        case first =>
          by_cases hc2 : c2 = 0
          · obtain ⟨t1, t2⟩ := H5.out hc2
            obtain ⟨bq, hbq⟩ : ∃ bq, (code == 3) = bq := ⟨_, rfl⟩
            rw [hbq] at t2
            have hcb : (c2 == 0) = true := by simp [hc2]
            clear i1
            cases bq
            · go_wp2_with fail
              go_meet
              case rel => exact ⟨by rw [hc2], by first | rfl | simp, rfl⟩
            · go_wp2_with fail
              go_meet
              case rel => exact ⟨by rw [hc2], by first | rfl | simp, rfl⟩
          · have hcb : (c2 == 0) = false := beq_eq_false_iff_ne.2 hc2
            go_wp2_with fail
            go_meet
            case rel => exact ⟨rfl, rfl, rfl⟩
        case rest =>
          obtain ⟨rfl, rfl, rfl⟩ := hcut
          go_wp2_with fail
          go_loopg [28] K.length (fun k u wr => ∃ i : Nat, i + k = K.length ∧ u = .int .i64 i ∧ Below W.heap.size W wr)
          case atStart => exact ⟨0, by omega, rfl, Below.refl _ _⟩
          case round =>
            obtain ⟨i, hik, rfl, hbel⟩ := hrel
            have hsz := hbel.size
            by_cases hlt : i < K.length
            · obtain ⟨b2, cc2, hv2, hlb2⟩ : ∃ b c1, Value.slice ao2 K.length cp2 = .slice (some ⟨b, 0, none⟩) K.length c1 ∧ b < W.heap.size := by
                rcases PW.out.shape with ⟨h, _⟩ | ⟨_, g, cp, h, _, hl, _⟩
                · rw [h] at hlt; simp at hlt
                · exact ⟨g, cp, h, hl⟩
              cases hv2
              have x1 := OwnI.cells (PW.out.below hbel) i hlt
              have hz := HSE.out K[i] (List.getElem_mem hlt)
              obtain ⟨kv, hkv⟩ : ∃ kv, K[i] = kv := ⟨_, rfl⟩
              rw [hkv] at x1 hz
              clear hkv
              obtain ⟨px, py, hrx⟩ := rep_zero hz
              have RX := Lib.hid hrx
              clear hrx
              have cG := blkK GW.out hbel (blk_lt GW.out)
              obtain ⟨zG, p1, p2, p3, f4, f5, f6⟩ := blk3 cG
              have zb2 : b2 < wr.heap.size := by omega
              have i0 : (0 : Int) ≤ (i : Int) := by omega
              have i1 : (i : Int) < (K.length : Int) := by omega
              clear hz
              go_wp2_with fail
              go_region_held3 (fun w' => Kept wr w') (repeat (first | (with_reducible assumption) | (with_reducible exact kept_refl _) | (with_reducible exact kept_other (by with_reducible assumption) (by first | omega | (simp; done) | (simp; omega))) | (with_reducible refine kept_alloc ?_) | (with_reducible refine kept_drew ?_) | (with_reducible refine kept_set ?_ (by first | omega | (simp; done) | (simp; omega))) | (with_reducible refine kept_call ?_ hb1))) (first | (go_at_call 10; refine (RX.out _).mono ?_; rintro e w1 ⟨rfl, hb1⟩; obtain ⟨hc1, hf1, hl1, hB1⟩ := bcell hb1; (try simp only [World.size_drew, cell_drew, frozen_drew, heapAt_drew] at hc1 hf1 hl1 hB1); have hz1 := hb1.size; (try simp at hz1); (try have hkA := hl1 _ hkA); (try have hkA : _ < w1.heap.size := hz1); (try have hkW : wr.heap.size < w1.heap.size := by omega); (try have hk0 : w.heap.size < w1.heap.size := by omega); (try have hk1 : w.heap.size + 1 < w1.heap.size := by omega); (try have hk2 : w.heap.size + 1 + 1 < w1.heap.size := by omega)))
              all_goals
                go_wp2_with fail
                go_roundg (gk - 1)
                case measure => omega
                case rel => exact ⟨i + 1, by omega, by go_num, (by repeat' (first | (with_reducible exact Below.refl _ _) | (with_reducible assumption) | (with_reducible refine Below.setCell ?_ ?_ _) | (with_reducible refine Below.alloc ?_ ?_ _) | (with_reducible refine Below.drew ?_) | (with_reducible refine below_drewN ?_ _) | (with_reducible refine Below.trans ?_ (Below.mono (by with_reducible assumption) ?_)) | go_size | (simp at *; omega)))⟩
            · have i1 : ¬ (i : Int) < (K.length : Int) := by omega
              have hBz : Below w.heap.size w wr := BW.out.trans (hbel.mono BW.out.size)
              by_cases hcd : code = 0
              · have FX := Lib.hid (FA.out hcd)
                have hcb : (code != 0) = false := by simp [hcd]
                have cF := blkK FW.out hbel (blk_lt FW.out)
                obtain ⟨zF, p1, p2, p3, f4, f5, f6⟩ := blk3 cF
                go_wp2_with fail
                refine (FX.out _).mono ?_
                rintro e wz ⟨rfl, bz⟩
                have hBz2 := hBz.trans (bz.mono hBz.size)
                clear bz p1 p2 p3 f4 f5 f6
                go_wp2_with fail
                go_ret
                exact ⟨rfl, hBz2⟩
              · have hcb : (code != 0) = true := by simp [hcd]
                go_wp2_with fail
                go_ret
                exact ⟨rfl, hBz⟩
end Go.Proofs.YtodbmnbahldabaaDoor
