/- What the draws of pairs hand back: some numbers, and old memory stands. -/
import Derived.Test.YtdbbjmcfpfalhaaDoorDraw
namespace Go.Proofs.YtdbbjmcfpfalhaaDoor
open Go.ChangeShapes Go.WideShapes Go.ChangeAt Go.RowKit
set_option linter.unusedVariables false
set_option maxHeartbeats 8000000
set_option maxRecDepth 20000
theorem appPP {w' : World} {B : Nat} {v' : Value} {L : List Pp} {f h : Pp} (hh : w'.ownsRow B 32 2 v' (L.length + 2) (rowsOf gP L ++ [.int .i64 f.x, .int .i64 f.y, .int .i64 h.x, .int .i64 h.y])) : OwnP w' B v' (L ++ [f, h]) := by
  have e : L ++ [f, h] = (L ++ [f]) ++ [h] := by simp
  have e2 : rowsOf gP ((L ++ [f]) ++ [h]) = rowsOf gP L ++ [.int .i64 f.x, .int .i64 f.y, .int .i64 h.x, .int .i64 h.y] := by
    rw [rows_append, rows_append, rows_one, rows_one]
    simp [gP]
  rw [e]
  unfold OwnP Own
  rw [e2]
  have e3 : ((L ++ [f]) ++ [h]).length = L.length + 2 := by simp
  rw [e3]
  exact hh
theorem four_cells (x y u v : Int) : ∀ z ∈ [Value.int .i64 x, Value.int .i64 y, Value.int .i64 u, Value.int .i64 v], z.oneCell' = true := by
  intro z hz
  simp at hz
  rcases hz with rfl | rfl | rfl | rfl <;> rfl
/-- Block b stands where a call wrote but its source's block. -/
theorem hpG {w w' : World} {b g : Nat} {o : Obj} (h : heapAt w b = some o) (hg : w.grownBy w' (some g)) (hb : b ≠ g) : heapAt w' b = some o :=
  (hg.block b (blk_lt h) (fun e => hb (Option.some.inj e))).trans h

theorem l10Pair_any (d m : Int) (g : Nat) (ao : Option Addr) (n cap : Nat) (M : Int) (w : World) (hs : Src w g (.slice ao n cap) M) (hM : M ≤ 700000) (hr : ByteRow w ao n g) (hn : n ≤ 4096) :
    Calls Tryd.prog 38 #[.pointer (some ⟨g, 0, none⟩), .int .i64 d, .int .i64 m] w (RetXY g (.slice ao n cap) (M + 20) w) := by
  have hz := hs.lt
  have S0 := Lib.hid hs
  have HR := Lib.hid hr
  have G0 := Lib.hid (gbRefl w (some g))
  clear hs hr
  by_cases hc : eqC d m = 0
  · obtain ⟨⟨hd, hm, hm0⟩, -⟩ := eqC_zero hc
    have CD := Lib.hid (by have h := l10Code_any d m; rw [hc] at h; exact h)
    obtain ⟨i0', hi, hz0', hz1', hz2'⟩ := info_parts infoP
    have HI := Lib.hid (And.intro hi (And.intro hz0' (And.intro hz1' hz2')))
    clear hi hz0' hz1' hz2' hc
    go_enter Tryd.func38, Tryd.ntmps38
    go_wp2_with fail
    refine (CD.out _).mono ?_
    rintro e w_ ⟨rfl, rfl⟩
    go_wp2_with fail
    refine (one_any 6 g ao n cap M _ (S0.out.alloc _) (by omega) (HR.out.grown (gbAlloc G0.out _) hz) hn (by omega)).mono ?_
    rintro e w1 ⟨b1, rfl, s1, g1⟩
    have S1 := Lib.hid s1
    have G1 := Lib.hid (gbTrans (gbAlloc G0.out _) g1)
    have hz1 := G1.out.size
    have R1 : Hid (heapAt w1 (w.heap.size) = some (.cells #[.int .i64 0, .int .i64 0] 32 (0, 0))) := Lib.hid (hpG (heapAt_new w _) g1 (by omega))
    have hg1 := g1.size
    clear s1 g1
    cases b1
    · go_wp2_with fail
      go_loopg [7, 8] 62 (fun k v u wr => ∃ (i : Nat) (L : List Pp), u = .int .i64 i ∧ i + k = 62 ∧ i ≤ 61 ∧ L.length ≤ 2 * i ∧ Hid (OwnP wr (w.heap.size + 1) v L) ∧ Hid (Src wr g (.slice ao n cap) (M + 2)) ∧ Hid (w.grownBy wr (some g)) ∧ Hid (heapAt wr w.heap.size = some (.cells #[.int .i64 0, .int .i64 0] 32 (0, 0))))
      case atStart => exact ⟨0, [], rfl, by omega, by omega, by simp, Lib.hid (Own.empty w1 _ _ _ _ (by simp at *; omega)), Lib.hid (S1.out.alloc _), Lib.hid (gbAlloc G1.out _), Lib.hid ((heapAt_old (blk_lt R1.out)).trans R1.out)⟩
      case round =>
        obtain ⟨i, L, rfl, hik, hil, hlen, HO, S2, G2, R2⟩ := hrel
        have hz2 := G2.out.size
        have szR := blk_lt R2.out
        by_cases hlt : i ≤ 60
        · have i1 : (i : Int) ≤ 60 := by omega
          have hy : 0 ≤ (i : Int) ∧ (i : Int) ≤ 100000 := by omega
          have LX := Lib.hid (l10X_any d m i · (by omega) (by omega) hy)
          have hp := su_plain (n := m) (by omega : 2 ≤ d ∧ d ≤ 1000) (by omega) hy
          have hX : -1000000000 ≤ rt (zX d m i) ∧ rt (zX d m i) ≤ 1000000000 := (pOk_is hp).1
          generalize rt (zX d m i) = X at *
          generalize sqB (zX d m i) = sq at *
          clear hp
          go_wp2_with fail
          refine (LX.out _).mono ?_
          rintro e w_ ⟨rfl, rfl⟩
          cases sq
          · go_wp2_with fail
            go_roundg (gk - 1)
            case measure => omega
            case rel => exact ⟨i + 1, L, by go_num, by omega, by omega, by omega, HO, S2, G2, R2⟩
          · obtain ⟨hi, hz0', hz1', hz2'⟩ := HI.out
            go_wp2_with (at_builtin; refine wpList_append_own _ rfl _ _ 28 rfl (w.heap.size + 1) 32 i0' (.agg #[.int .i64 0, .int .i64 0]) 2 16 Tryd.underlying28 hi hz0' hz1' hz2' rfl (by decide) _ _ _ rfl (World.ownsRow.alloc HO.out _) ⟨wr.heap.size, 0, none⟩ 2 2 [.int .i64 X, .int .i64 i, .int .i64 (-X), .int .i64 i] rfl rfl ?c1 ?c2 ?c3 ?c4 ?c5 ?_)
            case c1 => exact newcs _ _ _ _ rfl
            case c2 => exact four_cells _ _ _ _
            case c3 => unfold maxLen; omega
            case c4 => omega
            case c5 => simp; omega
            intro v' w3 hown' hgrow hnn
            have hne : ∀ b, Value.ownBlock u7 = some b → w.heap.size + 1 ≤ b := fun b hb => (HO.out.lt b hb).1
            have HN3 := Lib.hid (appPP (f := ⟨X, (i : Int)⟩) (h := ⟨-X, (i : Int)⟩) hown')
            have S3 := Lib.hid ((S2.out.alloc _).row hgrow (fun e => by have := hne _ e; omega))
            have G3 := Lib.hid (gbRow (gbAlloc G2.out _) hgrow (fun b hb => by have := hne b hb; omega))
            have R3 : Hid (heapAt w3 w.heap.size = some (.cells #[.int .i64 0, .int .i64 0] 32 (0, 0))) := Lib.hid ((hgrow.block w.heap.size (by simp; omega) (fun e => by have := hne _ e.symm; omega)).trans ((heapAt_old szR).trans R2.out))
            clear hown' hgrow hnn hi hz0' hz1' hz2' hne
            go_wp2_with fail
            go_roundg (gk - 1)
            case measure => omega
            case rel => exact ⟨i + 1, _, by go_num, by omega, by omega, by simp; omega, HN3, S3, G3, R3⟩
        · have i1 : ¬ (i : Int) ≤ 60 := by omega
          rcases HO.out.shape with ⟨rfl, ao2, c2, rfl⟩ | ⟨hp1, b, c2, rfl, hbB, hbz, _⟩
          · clear HO
            go_wp2_with fail
            refine (pick_any 41 g ao n cap (M + 2) _ (S2.out) (by omega) (HR.out.grown (G2.out) hz) hn (by omega)).mono ?_
            rintro e w3 ⟨x, rfl, xl, xu, s3, g3⟩
            have S3 := Lib.hid s3
            have G3 := Lib.hid (gbTrans (G2.out) g3)
            have hz3 := G3.out.size
            have R3 : Hid (heapAt w3 (w.heap.size) = some (.cells #[.int .i64 0, .int .i64 0] 32 (0, 0))) := Lib.hid (hpG (R2.out) g3 (by omega))
            have hg3 := g3.size
            clear s3 g3
            have szQ := blk_lt R3.out
            go_wp2_with fail
            refine (pick_any 21 g ao n cap ((M + 2) + 2) _ (S3.out.alloc _) (by omega) (HR.out.grown (gbAlloc G3.out _) hz) hn (by omega)).mono ?_
            rintro e w4 ⟨y, rfl, yl, yu, s4, g4⟩
            have S4 := Lib.hid s4
            have G4 := Lib.hid (gbTrans (gbAlloc G3.out _) g4)
            have hz4 := G4.out.size
            have R4 : Hid (heapAt w4 (w.heap.size) = some (.cells #[.int .i64 0, .int .i64 0] 32 (0, 0))) := Lib.hid (hpG ((heapAt_old (blk_lt R3.out)).trans R3.out) g4 (by omega))
            have B4 : Hid (heapAt w4 (w3.heap.size) = some (.cells #[.int .i64 (x - 20), .int .i64 0] 32 (0, 0))) := Lib.hid (hpG (heapAt_new w3 _) g4 (by omega))
            have hg4 := g4.size
            clear s4 g4
            have szB := blk_lt B4.out
            have szR := blk_lt R4.out
            have c0 := B4.out
            obtain ⟨zB, p1, p2, p3, p4⟩ := blk2 c0
            clear c0
            go_wp2_with fail
            refine (one_any 10 g ao n cap ((M + 2) + 2 + 2) _ (S4.out.set (by omega)) (by omega) (HR.out.grown (gbSetNew G4.out (by omega)) hz) hn (by omega)).mono ?_
            rintro e w5 ⟨bb, rfl, s5, g5⟩
            have S5 := Lib.hid s5
            have G5 := Lib.hid (gbTrans (gbSetNew G4.out (by omega)) g5)
            have hz5 := G5.out.size
            have R5 : Hid (heapAt w5 (w.heap.size) = some (.cells #[.int .i64 0, .int .i64 0] 32 (0, 0))) := Lib.hid (hpG ((heapAt_set_other (by omega)).trans R4.out) g5 (by omega))
            have B5 : Hid (heapAt w5 (w3.heap.size) = some (.cells #[.int .i64 (x - 20), .int .i64 (y - 10)] 32 (0, 0))) := Lib.hid (hpG (by rw [heapAt_set, B4.out]; rfl) g5 (by omega))
            have hg5 := g5.size
            clear s5 g5
            clear p1 p2 p3 p4
            have c0 := B5.out
            have c1 := R5.out
            obtain ⟨zB2, p1, p2, p3, p4⟩ := blk2 c0
            obtain ⟨zR2, r1, r2, r3, r4⟩ := blk2 c1
            have hRB : w3.heap.size ≠ w.heap.size := by omega
            cases bb
            · go_wp2_with fail
              apply body_row1 (w.heap.size) 32 Tryd.results38 Tryd.underlying32 rfl rfl rfl; (case q => simp (disch := (first | omega | (simp; done) | (simp; omega))) [*]; try rfl); (case hi => kernel_rfl)
              exact ⟨_, _, rfl, (S5.out.set (by omega)).set (by omega) |>.mono (by omega), gbSetNew (gbSetNew G5.out (by omega)) (by omega)⟩
            · clear c0 c1 p1 p2 p3 p4 r1 r2 r3 r4
              go_wp2_with fail
              refine (amongL [-1000000001, 1000000000, 1000000001, -9223372036854775808] (-9223372036854775808) 1000000001 (by decide) 4 rfl (by omega) _ g ao n cap ((M + 2) + 2 + 2 + 2) _ (S5.out) (by omega) (HR.out.grown (G5.out) hz) hn).mono ?_
              rintro e w6 ⟨z, rfl, zl, zu, s6, g6⟩
              have S6 := Lib.hid s6
              have G6 := Lib.hid (gbTrans (G5.out) g6)
              have hz6 := G6.out.size
              have R6 : Hid (heapAt w6 (w.heap.size) = some (.cells #[.int .i64 0, .int .i64 0] 32 (0, 0))) := Lib.hid (hpG (R5.out) g6 (by omega))
              have B6 : Hid (heapAt w6 (w3.heap.size) = some (.cells #[.int .i64 (x - 20), .int .i64 (y - 10)] 32 (0, 0))) := Lib.hid (hpG (B5.out) g6 (by omega))
              have hg6 := g6.size
              clear s6 g6
              have c0 := B6.out
              have c1 := R6.out
              obtain ⟨zB2, p1, p2, p3, p4⟩ := blk2 c0
              obtain ⟨zR2, r1, r2, r3, r4⟩ := blk2 c1
              go_wp2_with fail
              apply body_row1 (w.heap.size) 32 Tryd.results38 Tryd.underlying32 rfl rfl rfl; (case q => simp (disch := (first | omega | (simp; done) | (simp; omega))) [*]; try rfl); (case hi => kernel_rfl)
              exact ⟨_, _, rfl, ((S6.out.set (by omega)).set (by omega)).set (by omega) |>.mono (by omega), gbSetNew (gbSetNew (gbSetNew G6.out (by omega)) (by omega)) (by omega)⟩
          · have l1 : (L.length : Int) > 0 := by omega
            go_wp2_with fail
            refine (pick_any L.length g ao n cap (M + 2) _ (S2.out) (by omega) (HR.out.grown (G2.out) hz) hn (by omega)).mono ?_
            rintro e w3 ⟨j, rfl, jl, ju, s3, g3⟩
            have S3 := Lib.hid s3
            have G3 := Lib.hid (gbTrans (G2.out) g3)
            have hz3 := G3.out.size
            have R3 : Hid (heapAt w3 (w.heap.size) = some (.cells #[.int .i64 0, .int .i64 0] 32 (0, 0))) := Lib.hid (hpG (R2.out) g3 (by omega))
            have hg3 := g3.size
            have g3' := g3
            clear s3 g3
            obtain ⟨j, rfl⟩ := Int.eq_ofNat_of_zero_le jl
            have HO3 := Lib.hid (HO.out.kept g3' (.inr (by simp [Value.ownBlock]; omega)))
            clear g3'
            have j1 : (j : Int) < (L.length : Int) := by omega
            obtain ⟨c0, c1⟩ := OwnP.cells HO3.out j (by omega)
            generalize (L[j]).x = X at *
            generalize (L[j]).y = Y at *
            go_wp2_with fail
            refine (one_any 3 g ao n cap (M + 2 + 2) _ (S3.out.alloc _) (by omega) (HR.out.grown (gbAlloc G3.out _) hz) hn (by omega)).mono ?_
            rintro e w4 ⟨bb, rfl, s4, g4⟩
            have S4 := Lib.hid s4
            have G4 := Lib.hid (gbTrans (gbAlloc G3.out _) g4)
            have hz4 := G4.out.size
            have R4 : Hid (heapAt w4 (w.heap.size) = some (.cells #[.int .i64 0, .int .i64 0] 32 (0, 0))) := Lib.hid (hpG ((heapAt_old (blk_lt R3.out)).trans R3.out) g4 (by omega))
            have B4 : Hid (heapAt w4 (w3.heap.size) = some (.cells #[.int .i64 X, .int .i64 Y] 32 (0, 0))) := Lib.hid (hpG (heapAt_new w3 _) g4 (by omega))
            have hg4 := g4.size
            clear s4 g4
            have d0 := B4.out
            have d1 := R4.out
            clear c0 c1
            obtain ⟨zB2, p1, p2, p3, p4⟩ := blk2 d0
            obtain ⟨zR2, r1, r2, r3, r4⟩ := blk2 d1
            have hRB : w3.heap.size ≠ w.heap.size := by omega
            cases bb
            · go_wp2_with fail
              apply body_row1 (w.heap.size) 32 Tryd.results38 Tryd.underlying32 rfl rfl rfl; (case q => simp (disch := (first | omega | (simp; done) | (simp; omega))) [*]; try rfl); (case hi => kernel_rfl)
              exact ⟨_, _, rfl, (S4.out.set (by omega)).set (by omega) |>.mono (by omega), gbSetNew (gbSetNew G4.out (by omega)) (by omega)⟩
            · go_wp2_with fail
              apply body_row1 (w.heap.size) 32 Tryd.results38 Tryd.underlying32 rfl rfl rfl; (case q => simp (disch := (first | omega | (simp; done) | (simp; omega))) [*]; try rfl); (case hi => kernel_rfl)
              exact ⟨_, _, rfl, ((S4.out.set (by omega)).set (by omega)).set (by omega) |>.mono (by omega), gbSetNew (gbSetNew (gbSetNew G4.out (by omega)) (by omega)) (by omega)⟩
    · go_wp2_with fail
      refine (pick_any 41 g ao n cap (M + 2) _ (S1.out) (by omega) (HR.out.grown (G1.out) hz) hn (by omega)).mono ?_
      rintro e w2 ⟨x, rfl, xl, xu, s2, g2⟩
      have S2 := Lib.hid s2
      have G2 := Lib.hid (gbTrans (G1.out) g2)
      have hz2 := G2.out.size
      have R2 : Hid (heapAt w2 (w.heap.size) = some (.cells #[.int .i64 0, .int .i64 0] 32 (0, 0))) := Lib.hid (hpG (R1.out) g2 (by omega))
      have hg2 := g2.size
      clear s2 g2
      have szQ := blk_lt R2.out
      go_wp2_with fail
      refine (pick_any 21 g ao n cap ((M + 2) + 2) _ (S2.out.alloc _) (by omega) (HR.out.grown (gbAlloc G2.out _) hz) hn (by omega)).mono ?_
      rintro e w3 ⟨y, rfl, yl, yu, s3, g3⟩
      have S3 := Lib.hid s3
      have G3 := Lib.hid (gbTrans (gbAlloc G2.out _) g3)
      have hz3 := G3.out.size
      have R3 : Hid (heapAt w3 (w.heap.size) = some (.cells #[.int .i64 0, .int .i64 0] 32 (0, 0))) := Lib.hid (hpG ((heapAt_old (blk_lt R2.out)).trans R2.out) g3 (by omega))
      have B3 : Hid (heapAt w3 (w2.heap.size) = some (.cells #[.int .i64 (x - 20), .int .i64 0] 32 (0, 0))) := Lib.hid (hpG (heapAt_new w2 _) g3 (by omega))
      have hg3 := g3.size
      clear s3 g3
      have szB := blk_lt B3.out
      have szR := blk_lt R3.out
      have c0 := B3.out
      obtain ⟨zB, p1, p2, p3, p4⟩ := blk2 c0
      clear c0
      go_wp2_with fail
      refine (one_any 10 g ao n cap ((M + 2) + 2 + 2) _ (S3.out.set (by omega)) (by omega) (HR.out.grown (gbSetNew G3.out (by omega)) hz) hn (by omega)).mono ?_
      rintro e w4 ⟨bb, rfl, s4, g4⟩
      have S4 := Lib.hid s4
      have G4 := Lib.hid (gbTrans (gbSetNew G3.out (by omega)) g4)
      have hz4 := G4.out.size
      have R4 : Hid (heapAt w4 (w.heap.size) = some (.cells #[.int .i64 0, .int .i64 0] 32 (0, 0))) := Lib.hid (hpG ((heapAt_set_other (by omega)).trans R3.out) g4 (by omega))
      have B4 : Hid (heapAt w4 (w2.heap.size) = some (.cells #[.int .i64 (x - 20), .int .i64 (y - 10)] 32 (0, 0))) := Lib.hid (hpG (by rw [heapAt_set, B3.out]; rfl) g4 (by omega))
      have hg4 := g4.size
      clear s4 g4
      clear p1 p2 p3 p4
      have c0 := B4.out
      have c1 := R4.out
      obtain ⟨zB2, p1, p2, p3, p4⟩ := blk2 c0
      obtain ⟨zR2, r1, r2, r3, r4⟩ := blk2 c1
      have hRB : w2.heap.size ≠ w.heap.size := by omega
      cases bb
      · go_wp2_with fail
        apply body_row1 (w.heap.size) 32 Tryd.results38 Tryd.underlying32 rfl rfl rfl; (case q => simp (disch := (first | omega | (simp; done) | (simp; omega))) [*]; try rfl); (case hi => kernel_rfl)
        exact ⟨_, _, rfl, (S4.out.set (by omega)).set (by omega) |>.mono (by omega), gbSetNew (gbSetNew G4.out (by omega)) (by omega)⟩
      · clear c0 c1 p1 p2 p3 p4 r1 r2 r3 r4
        go_wp2_with fail
        refine (amongL [-1000000001, 1000000000, 1000000001, -9223372036854775808] (-9223372036854775808) 1000000001 (by decide) 4 rfl (by omega) _ g ao n cap ((M + 2) + 2 + 2 + 2) _ (S4.out) (by omega) (HR.out.grown (G4.out) hz) hn).mono ?_
        rintro e w5 ⟨z, rfl, zl, zu, s5, g5⟩
        have S5 := Lib.hid s5
        have G5 := Lib.hid (gbTrans (G4.out) g5)
        have hz5 := G5.out.size
        have R5 : Hid (heapAt w5 (w.heap.size) = some (.cells #[.int .i64 0, .int .i64 0] 32 (0, 0))) := Lib.hid (hpG (R4.out) g5 (by omega))
        have B5 : Hid (heapAt w5 (w2.heap.size) = some (.cells #[.int .i64 (x - 20), .int .i64 (y - 10)] 32 (0, 0))) := Lib.hid (hpG (B4.out) g5 (by omega))
        have hg5 := g5.size
        clear s5 g5
        have c0 := B5.out
        have c1 := R5.out
        obtain ⟨zB2, p1, p2, p3, p4⟩ := blk2 c0
        obtain ⟨zR2, r1, r2, r3, r4⟩ := blk2 c1
        go_wp2_with fail
        apply body_row1 (w.heap.size) 32 Tryd.results38 Tryd.underlying32 rfl rfl rfl; (case q => simp (disch := (first | omega | (simp; done) | (simp; omega))) [*]; try rfl); (case hi => kernel_rfl)
        exact ⟨_, _, rfl, ((S5.out.set (by omega)).set (by omega)).set (by omega) |>.mono (by omega), gbSetNew (gbSetNew (gbSetNew G5.out (by omega)) (by omega)) (by omega)⟩
  · have hcb : (eqC d m == 0) = false := by simp [hc]
    have CD := Lib.hid (l10Code_any d m)
    generalize eqC d m = C at *
    go_enter Tryd.func38, Tryd.ntmps38
    go_wp2_with fail
    refine (CD.out _).mono ?_
    rintro e w_ ⟨rfl, rfl⟩
    go_wp2_with fail
    refine (pick_any 41 g ao n cap M _ (S0.out.alloc _) (by omega) (HR.out.grown (gbAlloc G0.out _) hz) hn (by omega)).mono ?_
    rintro e w1 ⟨x, rfl, xl, xu, s1, g1⟩
    have S1 := Lib.hid s1
    have G1 := Lib.hid (gbTrans (gbAlloc G0.out _) g1)
    have hz1 := G1.out.size
    have R1 : Hid (heapAt w1 (w.heap.size) = some (.cells #[.int .i64 0, .int .i64 0] 32 (0, 0))) := Lib.hid (hpG (heapAt_new w _) g1 (by omega))
    have hg1 := g1.size
    clear s1 g1
    have szQ := blk_lt R1.out
    go_wp2_with fail
    refine (pick_any 21 g ao n cap (M + 2) _ (S1.out.alloc _) (by omega) (HR.out.grown (gbAlloc G1.out _) hz) hn (by omega)).mono ?_
    rintro e w2 ⟨y, rfl, yl, yu, s2, g2⟩
    have S2 := Lib.hid s2
    have G2 := Lib.hid (gbTrans (gbAlloc G1.out _) g2)
    have hz2 := G2.out.size
    have R2 : Hid (heapAt w2 (w.heap.size) = some (.cells #[.int .i64 0, .int .i64 0] 32 (0, 0))) := Lib.hid (hpG ((heapAt_old (blk_lt R1.out)).trans R1.out) g2 (by omega))
    have B2 : Hid (heapAt w2 (w1.heap.size) = some (.cells #[.int .i64 (x - 20), .int .i64 0] 32 (0, 0))) := Lib.hid (hpG (heapAt_new w1 _) g2 (by omega))
    have hg2 := g2.size
    clear s2 g2
    have szB := blk_lt B2.out
    have szR := blk_lt R2.out
    have c0 := B2.out
    obtain ⟨zB, p1, p2, p3, p4⟩ := blk2 c0
    clear c0
    go_wp2_with fail
    refine (one_any 10 g ao n cap (M + 2 + 2) _ (S2.out.set (by omega)) (by omega) (HR.out.grown (gbSetNew G2.out (by omega)) hz) hn (by omega)).mono ?_
    rintro e w3 ⟨bb, rfl, s3, g3⟩
    have S3 := Lib.hid s3
    have G3 := Lib.hid (gbTrans (gbSetNew G2.out (by omega)) g3)
    have hz3 := G3.out.size
    have R3 : Hid (heapAt w3 (w.heap.size) = some (.cells #[.int .i64 0, .int .i64 0] 32 (0, 0))) := Lib.hid (hpG ((heapAt_set_other (by omega)).trans R2.out) g3 (by omega))
    have B3 : Hid (heapAt w3 (w1.heap.size) = some (.cells #[.int .i64 (x - 20), .int .i64 (y - 10)] 32 (0, 0))) := Lib.hid (hpG (by rw [heapAt_set, B2.out]; rfl) g3 (by omega))
    have hg3 := g3.size
    clear s3 g3
    clear p1 p2 p3 p4
    have c0 := B3.out
    have c1 := R3.out
    obtain ⟨zB2, p1, p2, p3, p4⟩ := blk2 c0
    obtain ⟨zR2, r1, r2, r3, r4⟩ := blk2 c1
    have hRB : w1.heap.size ≠ w.heap.size := by omega
    cases bb
    · go_wp2_with fail
      apply body_row1 (w.heap.size) 32 Tryd.results38 Tryd.underlying32 rfl rfl rfl; (case q => simp (disch := (first | omega | (simp; done) | (simp; omega))) [*]; try rfl); (case hi => kernel_rfl)
      exact ⟨_, _, rfl, (S3.out.set (by omega)).set (by omega) |>.mono (by omega), gbSetNew (gbSetNew G3.out (by omega)) (by omega)⟩
    · clear c0 c1 p1 p2 p3 p4 r1 r2 r3 r4
      go_wp2_with fail
      refine (amongL [-1000000001, 1000000000, 1000000001, -9223372036854775808] (-9223372036854775808) 1000000001 (by decide) 4 rfl (by omega) _ g ao n cap (M + 2 + 2 + 2) _ (S3.out) (by omega) (HR.out.grown (G3.out) hz) hn).mono ?_
      rintro e w4 ⟨z, rfl, zl, zu, s4, g4⟩
      have S4 := Lib.hid s4
      have G4 := Lib.hid (gbTrans (G3.out) g4)
      have hz4 := G4.out.size
      have R4 : Hid (heapAt w4 (w.heap.size) = some (.cells #[.int .i64 0, .int .i64 0] 32 (0, 0))) := Lib.hid (hpG (R3.out) g4 (by omega))
      have B4 : Hid (heapAt w4 (w1.heap.size) = some (.cells #[.int .i64 (x - 20), .int .i64 (y - 10)] 32 (0, 0))) := Lib.hid (hpG (B3.out) g4 (by omega))
      have hg4 := g4.size
      clear s4 g4
      have c0 := B4.out
      have c1 := R4.out
      obtain ⟨zB2, p1, p2, p3, p4⟩ := blk2 c0
      obtain ⟨zR2, r1, r2, r3, r4⟩ := blk2 c1
      go_wp2_with fail
      apply body_row1 (w.heap.size) 32 Tryd.results38 Tryd.underlying32 rfl rfl rfl; (case q => simp (disch := (first | omega | (simp; done) | (simp; omega))) [*]; try rfl); (case hi => kernel_rfl)
      exact ⟨_, _, rfl, ((S4.out.set (by omega)).set (by omega)).set (by omega) |>.mono (by omega), gbSetNew (gbSetNew (gbSetNew G4.out (by omega)) (by omega)) (by omega)⟩
theorem body_row21 {P : Program} {fn : Func} {R : Ending → World → Prop} {a : Act} {w : World} {p u v : Tmp} {ty : TypeId} {d : TypeDesc} {cs : Array Value} (g : Nat) (t : TypeId) (h : fn.results = #[.tmp u, .tmp v, .cell p ty])
    (hu : P.underlying ty = some d) (hd : (match d with | .struct _ | .array _ _ => true | _ => false) = true) (hdf : a.defers = []) (hp : a.tmps.getD p undef = .pointer (some ⟨g, 0, none⟩))
    (q : heapAt w g = some (.cells cs t (0, 0))) (hi : (P.info? ty).map (·.size) = some cs.size) (hR : R (.returned (.tuple #[a.tmps.getD u undef, a.tmps.getD v undef, .agg cs])) w) : bodyPost P fn R .ret a w := by
  refine bodyPost_ret ?_ hdf hR
  have hp' : a.tmps[p]?.getD undef = .pointer (some ⟨g, 0, none⟩) := by simpa using hp
  simp [results, h, hp', asAddr, run_loadVar_row w g t ty cs (0, 0) d q hu hd hi, Result.andThen]
theorem body_row02 {P : Program} {fn : Func} {R : Ending → World → Prop} {a : Act} {w : World} {p u : Tmp} {ty : TypeId} {d : TypeDesc} {cs : Array Value} (g : Nat) (t : TypeId) (h : fn.results = #[.tmp u, .cell p ty])
    (hu : P.underlying ty = some d) (hd : (match d with | .struct _ | .array _ _ => true | _ => false) = true) (hdf : a.defers = []) (hp : a.tmps.getD p undef = .pointer (some ⟨g, 0, none⟩))
    (q : heapAt w g = some (.cells cs t (0, 0))) (hi : (P.info? ty).map (·.size) = some cs.size) (hR : R (.returned (.tuple #[a.tmps.getD u undef, .agg cs])) w) : bodyPost P fn R .ret a w := by
  refine bodyPost_ret ?_ hdf hR
  have hp' : a.tmps[p]?.getD undef = .pointer (some ⟨g, 0, none⟩) := by simpa using hp
  simp [results, h, hp', asAddr, run_loadVar_row w g t ty cs (0, 0) d q hu hd hi, Result.andThen]
theorem Below.ofGrown {w a w' : World} {g : Nat} (hb : Below w.heap.size w a) (hg : a.grownBy w' (some g)) (hz : w.heap.size ≤ g) : Below w.heap.size w w' :=
  hb.grown hg hb.size (fun k hk => by cases hk; exact hz)
/-- An equation and a pair. -/
def RetQ (w : World) (e : Ending) (w' : World) : Prop := ∃ d n x y : Int, e = .returned (.tuple #[.int .i64 d, .int .i64 n, .agg #[.int .i64 x, .int .i64 y]]) ∧ Below w.heap.size w w'
theorem from_any (ao : Option Addr) (n cap : Nat) (w : World) :
    Calls Tryd.prog 25 #[.slice ao n cap] w fun e w' => e = .returned (.pointer (some ⟨w.heap.size, 0, none⟩)) ∧ w' = w.alloc (.cells #[.slice ao n cap, .int .i64 0, .int .u64 0] 65) := by
  go_enter Tryd.func25, Tryd.ntmps25
  go_wp2_with fail
  go_ret
  exact ⟨rfl, rfl⟩
theorem from_src (ao : Option Addr) (n cap : Nat) (w : World) : Src (w.alloc (.cells #[.slice ao n cap, .int .i64 0, .int .u64 0] 65)) w.heap.size (.slice ao n cap) 0 :=
  ⟨0, 0, by omega, by omega, by omega, heapAt_new w _⟩
theorem l10One_any (ao : Option Addr) (n cap : Nat) (w : World) (hr : ByteRow w ao n w.heap.size) (hn : n ≤ 4096) : Calls Tryd.prog 43 #[.slice ao n cap] w (RetQ w) := by
  have HR := Lib.hid hr
  clear hr
  go_enter Tryd.func43, Tryd.ntmps43
  go_wp2_with fail
  refine (from_any ao n cap _).mono ?_
  rintro e w1 ⟨rfl, hw1⟩
  have s1 := from_src ao n cap (w.alloc (.cells #[.int .i64 0, .int .i64 0] 32))
  have b1 : Below w.heap.size w ((w.alloc (.cells #[.int .i64 0, .int .i64 0] 32)).alloc (.cells #[.slice ao n cap, .int .i64 0, .int .u64 0] 65)) := (by repeat' (first | (with_reducible exact Below.refl _ _) | (with_reducible assumption) | (with_reducible refine Below.setCell ?_ ?_ _) | (with_reducible refine Below.alloc ?_ ?_ _) | (with_reducible refine Below.drew ?_) | (with_reducible refine below_drewN ?_ _) | (with_reducible refine Below.trans ?_ (Below.mono (by with_reducible assumption) ?_)) | go_size | (simp at *; omega)))
  have r1 : heapAt ((w.alloc (.cells #[.int .i64 0, .int .i64 0] 32)).alloc (.cells #[.slice ao n cap, .int .i64 0, .int .u64 0] 65)) w.heap.size = some (.cells #[.int .i64 0, .int .i64 0] 32 (0, 0)) := (heapAt_old (by simp)).trans (heapAt_new w _)
  have e1 : (w.alloc (.cells #[.int .i64 0, .int .i64 0] 32)).heap.size = w.heap.size + 1 := World.size_alloc _ _
  rw [← hw1] at s1 b1 r1
  rw [e1] at s1 ⊢
  clear hw1
  have hz1 := b1.size
  have hz1' := s1.lt
  have S1 := Lib.hid s1
  have R1 := Lib.hid r1
  have B1 := Lib.hid b1
  clear s1 r1 b1
  go_wp2_with fail
  refine (l10Draw_any (w.heap.size + 1) ao n cap 0 w1 S1.out (by omega) ((HR.out.below B1.out (Nat.le_refl _)).mono (by omega)) hn).mono ?_
  rintro e w2 ⟨d, m, rfl, s2, g2, -⟩
  have S2 := Lib.hid s2
  have G2 := Lib.hid g2
  have R2 := Lib.hid (hpG R1.out g2 (by omega))
  have B2 := Lib.hid (Below.ofGrown B1.out g2 (by omega))
  clear s2 g2
  have hz2 := B2.out.size
  go_wp2_with fail
  refine (l10Pair_any d m (w.heap.size + 1) ao n cap (0 + 20) w2 S2.out (by omega) ((HR.out.below B2.out (Nat.le_refl _)).mono (by omega)) hn).mono ?_
  rintro e w3 ⟨x, y, rfl, s3, g3⟩
  have B3 := Lib.hid (Below.ofGrown B2.out g3 (by omega))
  have r3 := hpG R2.out g3 (by omega)
  clear s3 g3
  obtain ⟨zR, q1, q2, q3, q4⟩ := blk2 r3
  go_wp2_with fail
  apply body_row21 (w.heap.size) 32 Tryd.results43 Tryd.underlying32 rfl rfl rfl
  case q => simp [*]; try rfl
  case hi => kernel_rfl
  have b3 := B3.out
  exact ⟨_, _, _, _, rfl, (by repeat' (first | (with_reducible exact Below.refl _ _) | (with_reducible assumption) | (with_reducible refine Below.setCell ?_ ?_ _) | (with_reducible refine Below.alloc ?_ ?_ _) | (with_reducible refine Below.drew ?_) | (with_reducible refine below_drewN ?_ _) | (with_reducible refine Below.trans ?_ (Below.mono (by with_reducible assumption) ?_)) | go_size | (simp at *; omega)))⟩
/-- A number and a pair. -/
def RetQ2 (w : World) (e : Ending) (w' : World) : Prop := ∃ d x y : Int, e = .returned (.tuple #[.int .i64 d, .agg #[.int .i64 x, .int .i64 y]]) ∧ Below w.heap.size w w'
end Go.Proofs.YtdbbjmcfpfalhaaDoor
