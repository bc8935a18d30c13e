/- The surds of a root up to the first that comes again: the reference's walk. -/
import Derived.Test.YtdbbjmcfpfalhaaDoorFind
import Derived.Deep.AppendLies
import Derived.Deep.RegionLaw
namespace Go.Proofs.YtdbbjmcfpfalhaaDoor
open Go.ChangeShapes Go.WideShapes Go.ChangeAt Go.RowKit
set_option linter.unusedVariables false
set_option maxHeartbeats 8000000
set_option maxRecDepth 20000
/-- The first k terms. -/
def tL (D r k : Nat) : List Int := (List.range k).map fun j => (sA D r j : Int)
theorem tL_succ (D r k : Nat) : tL D r (k + 1) = tL D r k ++ [(sA D r k : Int)] := by simp [tL, List.range_succ]
theorem tL_len (D r k : Nat) : (tL D r k).length = k := by simp [tL]
theorem tL_at (D r k i : Nat) (h : i < (tL D r k).length) : (tL D r k)[i] = (sA D r i : Int) := by simp [tL]
/-- A walker of the call's own, at its end. -/
def RetW (d : Int) (D r n : Nat) (w : World) (e : Ending) (w' : World) : Prop :=
  ∃ g vS vT, e = .returned (.tuple #[.pointer (some ⟨g, 0, none⟩), .bool true]) ∧ heapAt w' g = some (.cells #[vS, vT, .int .i64 1] 89 (0, 0)) ∧ OwnI w' w.heap.size vT (tL D r (n + 1)) ∧ vT.ownBlock ≠ some g ∧ w.heap.size ≤ g ∧ Below w.heap.size w w'
theorem l08Walk_any (d : Int) (D r n : Nat) (H : PerI d D r n) (w : World) :
    Calls Tryd.prog 67 #[.agg #[.int .i64 0, .int .i64 d, .int .i64 1]] w (RetW d D r n w) := by
  obtain ⟨i0', hi, hz0, hz1, hz2⟩ := info_parts infoS
  have HI := Lib.hid (And.intro hi (And.intro hz0 (And.intro hz1 hz2)))
  obtain ⟨j0', hj, hy0, hy1, hy2⟩ := info_parts infoI
  have HJ := Lib.hid (And.intro hj (And.intro hy0 (And.intro hy1 hy2)))
  clear hi hz0 hz1 hz2 hj hy0 hy1 hy2
  have HH := Lib.hid H
  have hn2 := H.per.n2
  have hn1 := H.per.n1
  have hdm := H.dsmall
  clear H
  go_enter Tryd.func67, Tryd.ntmps67
  go_wp2_with fail
  go_loopg [5] (n + 2) (fun k u wr => ∃ (i : Nat) (vS vT : Value) (f : Int), i + k = n + 2 ∧ i ≤ n + 1 ∧ Hid (OwnS d wr (w.heap.size + 1 + 1) vS (sL D r i)) ∧ Hid (OwnI wr (w.heap.size + 1 + 1) vT (tL D r i)) ∧ Hid (∀ b, vS.ownBlock = some b → vT.ownBlock ≠ some b) ∧
    heapAt wr w.heap.size = some (.cells #[.int .i64 ((sS D r i).1 : Nat), .int .i64 d, .int .i64 ((sS D r i).2 : Nat)] 86 (0, 0)) ∧ heapAt wr (w.heap.size + 1) = some (.cells #[vS, vT, .int .i64 f] 89 (0, 0)) ∧ Below w.heap.size w wr)
  case atStart => exact ⟨0, .slice none 0 0, .slice none 0 0, 0, by omega, by omega, Lib.hid (Own.nil _ _ _ _ _), Lib.hid (Own.nil _ _ _ _ _), Lib.hid (fun b hb => by cases hb), by simp [sS, itS], (by simp (disch := (first | omega | (simp; done) | (simp; omega))) [*]), (by repeat' (first | (with_reducible exact Below.refl _ _) | (with_reducible assumption) | (with_reducible refine Below.setCell ?_ ?_ _) | (with_reducible refine Below.alloc ?_ ?_ _) | (with_reducible refine Below.drew ?_) | (with_reducible refine below_drewN ?_ _) | (with_reducible refine Below.trans ?_ (Below.mono (by with_reducible assumption) ?_)) | go_size | (simp at *; omega)))⟩
  case round =>
    obtain ⟨i, vS, vT, f, hik, hin, HS, HT, HN, hbox, hR, hbel⟩ := hrel
    obtain ⟨z1, p1, p2, p3, f1, f2, f3⟩ := blk3 hbox
    obtain ⟨z2, q1, q2, q3, g1, g2, g3⟩ := blk3 hR
    have FD := Lib.hid (fun (w' : World) (h : OwnS d w' (w.heap.size + 1 + 1) vS (sL D r i)) => l08Find_any d vS (sL D r i) (w.heap.size + 1 + 1) (sS D r i) w' h (by rw [sL_len]; omega))
    by_cases hlt : i ≤ n
    · have hfi := fiS_new HH.out (k := i) hlt
      rw [hfi] at FD
      clear hfi
      go_upto_region 2 with fail
      go_region_held3 (fun w' => KeptC (w.heap.size + 1) 2 wr w') (repeat (first | (with_reducible assumption) | (with_reducible exact keptc_refl _ _ _) | (with_reducible refine keptc_alloc ?_) | (with_reducible refine keptc_drew ?_) | (with_reducible refine keptc_set_same ?_) | (with_reducible refine keptc_call ?_ hb1))) (first | (go_at_call 77; refine (FD.out _ (by exact HS.out)).mono ?_; rintro e w1 ⟨rfl, hb1⟩; obtain ⟨hc1, hf1, hl1, hB1⟩ := bcell hb1; (try simp only [World.size_drew, cell_drew, frozen_drew, heapAt_drew] at hc1 hf1 hl1 hB1); have hz1 := hb1.size; (try simp at hz1); (try have hkA := hl1 _ hkA); (try have hkA : _ < w1.heap.size := hz1); (try have hkW : wr.heap.size < w1.heap.size := by omega); (try have hk0 : w.heap.size < w1.heap.size := by omega); (try have hk1 : w.heap.size + 1 < w1.heap.size := by omega); (try have hk2 : w.heap.size + 1 + 1 < w1.heap.size := by omega)))
      have hbw1 : Below wr.heap.size wr w1 := (by repeat' (first | (with_reducible exact Below.refl _ _) | (with_reducible assumption) | (with_reducible refine Below.setCell ?_ ?_ _) | (with_reducible refine Below.alloc ?_ ?_ _) | (with_reducible refine Below.drew ?_) | (with_reducible refine below_drewN ?_ _) | (with_reducible refine Below.trans ?_ (Below.mono (by with_reducible assumption) ?_)) | go_size | (simp at *; omega)))
      have hbx1 : heapAt w1 w.heap.size = _ := (hbw1.block w.heap.size z1).trans hbox
      have hR1 : heapAt w1 (w.heap.size + 1) = _ := (hbw1.block (w.heap.size + 1) z2).trans hR
      have HS1 := Lib.hid (setL (j := 2) (u := .int .i64 (-1)) (b := w.heap.size + 1) (HS.out.below hbw1) (by omega))
      have HT1 := Lib.hid (setL (j := 2) (u := .int .i64 (-1)) (b := w.heap.size + 1) (HT.out.below hbw1) (by omega))
      obtain ⟨V, hV⟩ : ∃ V, V = w1.setCell ⟨w.heap.size + 1, 2, none⟩ (.int .i64 (-1)) := ⟨_, rfl⟩
      have kx : heapAt V w.heap.size = some (.cells #[.int .i64 ((sS D r i).1 : Nat), .int .i64 d, .int .i64 ((sS D r i).2 : Nat)] 86 (0, 0)) := by rw [hV, heapAt_set_other (by omega)]; exact hbx1
      have kR : heapAt V (w.heap.size + 1) = some (.cells #[vS, vT, .int .i64 (-1)] 89 (0, 0)) := by rw [hV, heapAt_set, hR1]; rfl
      have kb : Below w.heap.size w V := by rw [hV]; exact (hbel.trans (hbw1.mono (by omega))).setCell (by simp) _
      rw [← hV] at HS1 HT1 ⊢
      clear hV hb1 hc1 hf1 hl1 hB1 hz1 hk0 hk1 hbw1 hbx1 hR1 hbox hR hbel p1 p2 p3 f1 f2 f3 q1 q2 q3 g1 g2 g3 HS HT z1 z2 FD
      obtain ⟨ao, cap, hv⟩ := HS1.out.len
      rw [sL_len] at hv
      obtain ⟨z1, p1, p2, p3, f1, f2, f3⟩ := blk3 kx
      obtain ⟨z2, q1, q2, q3, g1, g2, g3⟩ := blk3 kR
      have X : Nx d (sS D r i).1 (sS D r i).2 (sA D r i : Nat) (sS D r (i + 1)).1 (sS D r (i + 1)).2 := HH.out.nx (k := i) hlt
      have hX := X
      have hq0 := hX.q0
      have hsm := HH.out.small (k := i) (by omega)
      have ha := HH.out.a (k := i) hlt
      have NS := Lib.hid (l07Next_any _ _ _ _ _ _ · X)
      have FS := Lib.hid (by have h := l07Floor_any ((sS D r i).1 : Nat) d ((sS D r i).2 : Nat) · ⟨by omega, by omega⟩ hdm ⟨by omega, by omega⟩; rw [HH.out.fl (k := i) hlt] at h; exact h)
      clear hX X
      subst hv
      go_wp2_with fail; refine (FS.out _).mono ?_; rintro e w3 ⟨rfl, hb3⟩; obtain ⟨hc3, hf3, -, hB3⟩ := bcell hb3; have hz3 := hb3.size; (try simp at hz3); (try have hk3_0 : w.heap.size < w3.heap.size := by omega); (try have hk3_1 : w.heap.size + 1 < w3.heap.size := by omega); (try have hk3_2 : w.heap.size + 1 + 1 < w3.heap.size := by omega); (try have hk3_3 : w.heap.size + 1 + 1 + 1 < w3.heap.size := by omega); (try have hk3_4 : wr.heap.size < w3.heap.size := by omega); (try have hk3_5 : wr.heap.size + 1 < w3.heap.size := by omega); (try have hk3_6 : w1.heap.size < w3.heap.size := by omega); (try have hk3_7 : w1.heap.size + 1 < w3.heap.size := by omega); (try have hk3_8 : w2.heap.size < w3.heap.size := by omega); (try have hk3_9 : w2.heap.size + 1 < w3.heap.size := by omega)
      go_upto_region 8 with fail
      have kx3 : heapAt w3 w.heap.size = _ := (hB3 _ z1).trans kx
      have kR3 : heapAt w3 (w.heap.size + 1) = _ := (hB3 _ z2).trans kR
      have hS3 : OwnS d w3 (w.heap.size + 1 + 1) _ (sL D r i) := HS1.out.below hb3
      have HT3 := Lib.hid (HT1.out.below hb3)
      have kb3 : Below w.heap.size w w3 := kb.trans (hb3.mono (by omega))
      have hi3 : i = (sL D r i).length := by rw [sL_len]
      generalize Value.slice ao i cap = vS at *
      obtain ⟨L, hL⟩ : ∃ L, sL D r i = L := ⟨_, rfl⟩
      rw [hL] at hS3
      have hLl : L.length = i := by rw [← hL, sL_len]
      have e1 := sL_succ D r i
      rw [hL] at e1
      have E1 := Lib.hid e1
      have HS3 := Lib.hid (show w3.ownsRow (w.heap.size + 1 + 1) 86 3 vS i (rowsOf (gS d) L) by rw [← hLl]; exact hS3)
      have hnb : ∀ b, vS.ownBlock = some b → w.heap.size + 1 + 1 ≤ b ∧ b < w3.heap.size := hS3.lt
      have HLl := Lib.hid hLl
      have hn1' : vS.ownBlock ≠ some w.heap.size := fun e => by have := hnb _ e; omega
      have hn2' : vS.ownBlock ≠ some (w.heap.size + 1) := fun e => by have := hnb _ e; omega
      clear p1 p2 p3 f1 f2 f3 q1 q2 q3 g1 g2 g3 z1 z2 e1 hL hLl hS3 hi3 kx kR hc3 hf3 hB3 hb3 hz3
      obtain ⟨z1, p1, p2, p3, f1, f2, f3⟩ := blk3 kx3
      obtain ⟨z2, q1, q2, q3, g1, g2, g3⟩ := blk3 kR3
      obtain ⟨hi, hz0, hz1', hz2⟩ := HI.out
      have ne1 := World.new_ne w3 ⟨w.heap.size, 0, none⟩ p1
      have ne2 := World.new_ne w3 ⟨w.heap.size + 1, 0, none⟩ q1
      go_region_law
        ((refine step_append_lies _ (by rfl) _ _ 87 (by rfl) (w.heap.size + 1 + 1) 86 i0' (.agg #[.int .i64 0, .int .i64 0, .int .i64 0]) 3 24 Tryd.underlying87 hi hz0 hz1' hz2 rfl (by decide) vS i (rowsOf (gS d) L) (by rfl) ((World.ownsRow.alloc HS3.out _).drew) ⟨w3.heap.size, 0, none⟩ 1 1 [.int .i64 ((sS D r i).1 : Nat), .int .i64 d, .int .i64 ((sS D r i).2 : Nat)] (by rfl) rfl (newcs w3 _ 86 _ rfl) (three_cellsS _ _ _) (by decide) (by unfold maxLen; omega) (by omega) (by simp; omega) (w3.heap.size + 1) (by simp) ?_; intro g' cap' w5 hown5 hgrow5 hat5 hlt5; have c50 : w5.cell? ⟨w.heap.size + 1, 0, none⟩ = some vS := (hgrow5.cell_far ⟨w.heap.size + 1, 0, none⟩ (by simp; omega) (by simpa using hn2'.symm)).trans ((cell_alloc_lt z2).trans q1); have f50 : w5.frozen? ⟨w.heap.size + 1, 0, none⟩ = false := (hgrow5.frozen_far ⟨w.heap.size + 1, 0, none⟩ (by simp; omega) (by simpa using hn2'.symm)).trans ((frozen_alloc_lt z2).trans g1)))
      all_goals
        have hgrow : (w3.alloc (.cells #[.int .i64 ((sS D r i).1 : Nat), .int .i64 d, .int .i64 ((sS D r i).2 : Nat)] 86)).grownBy w5 vS.ownBlock := ⟨hgrow5.os, hgrow5.tape, hgrow5.output, hgrow5.size, hgrow5.block⟩
        have hN5 : OwnS d w5 (w.heap.size + 1 + 1) (.slice (some ⟨g', 0, none⟩) (i + 1) cap') (sL D r (i + 1)) := by rw [E1.out]; exact appS (L := L) (s := sS D r i) (by rw [HLl.out]; exact hown5)
        have hT5 : OwnI w5 (w.heap.size + 1 + 1) vT (tL D r i) := (allocL HT3.out _).kept hgrow (by
          cases hb : vS.ownBlock with
          | none => cases hc : vT.ownBlock with
            | none => exact .inl rfl
            | some c => exact .inr (by simp)
          | some b => exact .inr (HN.out b hb))
        have hx5 : heapAt w5 w.heap.size = some (.cells #[.int .i64 ((sS D r i).1 : Nat), .int .i64 d, .int .i64 ((sS D r i).2 : Nat)] 86 (0, 0)) := (grown_atL hgrow hn1' (by simp; omega)).trans ((heapAt_old z1).trans kx3)
        have hR5 : heapAt w5 (w.heap.size + 1) = some (.cells #[vS, vT, .int .i64 (-1)] 89 (0, 0)) := (grown_atL hgrow hn2' (by simp; omega)).trans ((heapAt_old z2).trans kR3)
        have hb5 : Below w.heap.size w w5 := Below.grown (Below.alloc kb3 (by omega) _) hgrow (by simp; omega) (fun k hk => by have := hnb k hk; omega)
        have hz5 : w3.heap.size + 1 ≤ w5.heap.size := by have := hgrow.size; simp at this; omega
        have hN6 : ∀ b, (Value.slice (some ⟨g', 0, none⟩) (i + 1) cap').ownBlock = some b → vT.ownBlock ≠ some b := by
          intro b hb hc
          have e : g' = b := by simpa [Value.ownBlock] using hb
          subst e
          rcases hat5 with h | h
          · exact HN.out _ h hc
          · have := (HT3.out.lt _ hc).2
            omega
        obtain ⟨U, hU⟩ : ∃ U, U = w5.setCell ⟨w.heap.size + 1, 0, none⟩ (.slice (some ⟨g', 0, none⟩) (i + 1) cap') := ⟨_, rfl⟩
        have HS6 := Lib.hid (setL (j := 0) (u := .slice (some ⟨g', 0, none⟩) (i + 1) cap') (b := w.heap.size + 1) hN5 (by omega))
        have HT6 := Lib.hid (setL (j := 0) (u := .slice (some ⟨g', 0, none⟩) (i + 1) cap') (b := w.heap.size + 1) hT5 (by omega))
        have kx6 : heapAt U w.heap.size = some (.cells #[.int .i64 ((sS D r i).1 : Nat), .int .i64 d, .int .i64 ((sS D r i).2 : Nat)] 86 (0, 0)) := by rw [hU, heapAt_set_other (by omega)]; exact hx5
        have kR6 : heapAt U (w.heap.size + 1) = some (.cells #[.slice (some ⟨g', 0, none⟩) (i + 1) cap', vT, .int .i64 (-1)] 89 (0, 0)) := by rw [hU, heapAt_set, hR5]; rfl
        have kb6 : Below w.heap.size w U := by rw [hU]; exact hb5.setCell (by simp) _
        have HN6 := Lib.hid hN6
        rw [← hU] at HS6 HT6 ⊢
        generalize Value.slice (some ⟨g', 0, none⟩) (i + 1) cap' = vS' at *
        clear hU hgrow hgrow5 hown5 hN5 hT5 hx5 hR5 hb5 hz5 hN6 hat5 hlt5 c50 f50 ne1 ne2 p1 p2 p3 f1 f2 f3 q1 q2 q3 g1 g2 g3 z1 z2 kx3 kR3 kb3 kb HS3 HT3 HT1 E1 HLl hnb hn1' hn2' HN hi hz0 hz1' hz2
        obtain ⟨z1, p1, p2, p3, f1, f2, f3⟩ := blk3 kx6
        obtain ⟨z2, q1, q2, q3, g1, g2, g3⟩ := blk3 kR6
        obtain ⟨hj, hy0, hy1, hy2⟩ := HJ.out
        obtain ⟨M, hM⟩ : ∃ M, tL D r i = M := ⟨_, rfl⟩
        rw [hM] at HT6
        have hMl : M.length = i := by rw [← hM, tL_len]
        have e1 := tL_succ D r i
        rw [hM] at e1
        have E1 := Lib.hid e1
        have HT7 := Lib.hid (show U.ownsRow (w.heap.size + 1 + 1) 2 1 vT i (rowsOf gI1 M) by rw [← hMl]; exact HT6.out)
        have HMl := Lib.hid hMl
        have hnb : ∀ b, vT.ownBlock = some b → w.heap.size + 1 + 1 ≤ b ∧ b < U.heap.size := HT6.out.lt
        clear e1 hM hMl
        go_wp2_with (at_builtin; refine wpList_append_lies _ rfl _ _ 51 rfl (w.heap.size + 1 + 1) 2 j0' (.int .i64 0) 1 8 Tryd.underlying51 hj hy0 hy1 hy2 rfl (by decide) vT i (rowsOf gI1 M) rfl (World.ownsRow.alloc HT7.out _) ⟨U.heap.size, 0, none⟩ 1 1 [.int .i64 (sA D r i : Nat)] rfl rfl ?c1 ?c2 (by decide) ?c3 ?c4 ?c5 (U.heap.size + 1) ?c6 ?_)
        case c1 => exact newcs _ _ _ _ rfl
        case c2 => exact one_cell _
        case c3 => unfold maxLen; omega
        case c4 => omega
        case c5 => simp; omega
        case c6 => simp
        intro g2' cap2 w7 hown7 hgrow7 hat7 hlt7
        have hT8 : OwnI w7 (w.heap.size + 1 + 1) (.slice (some ⟨g2', 0, none⟩) (i + 1) cap2) (tL D r (i + 1)) := by rw [E1.out]; exact appI (L := M) (f := (sA D r i : Int)) (by rw [HMl.out]; exact hown7)
        have hS8 : OwnS d w7 (w.heap.size + 1 + 1) vS' (sL D r (i + 1)) := (allocL HS6.out _).kept hgrow7 (by
          cases hb : vS'.ownBlock with
          | none => exact .inl rfl
          | some b => exact .inr (fun e => HN6.out b hb e.symm))
        have hm1 : vT.ownBlock ≠ some w.heap.size := fun e => by have := hnb _ e; omega
        have hm2 : vT.ownBlock ≠ some (w.heap.size + 1) := fun e => by have := hnb _ e; omega
        have hx8 : heapAt w7 w.heap.size = some (.cells #[.int .i64 ((sS D r i).1 : Nat), .int .i64 d, .int .i64 ((sS D r i).2 : Nat)] 86 (0, 0)) := (grown_atL hgrow7 hm1 (by simp; omega)).trans ((heapAt_old z1).trans kx6)
        have hR8 : heapAt w7 (w.heap.size + 1) = some (.cells #[vS', vT, .int .i64 (-1)] 89 (0, 0)) := (grown_atL hgrow7 hm2 (by simp; omega)).trans ((heapAt_old z2).trans kR6)
        have hb8 : Below w.heap.size w w7 := Below.grown (Below.alloc kb6 (by omega) _) hgrow7 (by simp; omega) (fun k hk => by have := hnb k hk; omega)
        have hz8 : U.heap.size + 1 ≤ w7.heap.size := by have := hgrow7.size; simp at this; omega
        have hN8 : ∀ b, vS'.ownBlock = some b → (Value.slice (some ⟨g2', 0, none⟩) (i + 1) cap2).ownBlock ≠ some b := by
          intro b hb hc
          have e : g2' = b := by simpa [Value.ownBlock] using hc
          subst e
          rcases hat7 with h | h
          · exact HN6.out _ hb h
          · have := (HS6.out.lt _ hb).2
            omega
        clear hgrow7 hown7 hat7 hlt7 p1 p2 p3 f1 f2 f3 q1 q2 q3 g1 g2 g3 z1 z2 kx6 kR6 kb6 HS6 HT6 HT7 E1 HMl hnb hm1 hm2 HN6 hj hy0 hy1 hy2
        obtain ⟨z1, p1, p2, p3, f1, f2, f3⟩ := blk3 hx8
        obtain ⟨z2, q1, q2, q3, g1, g2, g3⟩ := blk3 hR8
        go_wp2_with fail
        obtain ⟨Y, hY⟩ : ∃ Y, Y = w7.setCell ⟨w.heap.size + 1, 1, none⟩ (.slice (some ⟨g2', 0, none⟩) (i + 1) cap2) := ⟨_, rfl⟩
        have HS9 := Lib.hid (setL (j := 1) (u := (.slice (some ⟨g2', 0, none⟩) (i + 1) cap2)) (b := w.heap.size + 1) hS8 (by omega))
        have HT9 := Lib.hid (setL (j := 1) (u := (.slice (some ⟨g2', 0, none⟩) (i + 1) cap2)) (b := w.heap.size + 1) hT8 (by omega))
        have kx9 : heapAt Y w.heap.size = some (.cells #[.int .i64 ((sS D r i).1 : Nat), .int .i64 d, .int .i64 ((sS D r i).2 : Nat)] 86 (0, 0)) := by rw [hY, heapAt_set_other (by omega)]; exact hx8
        have kR9 : heapAt Y (w.heap.size + 1) = some (.cells #[vS', .slice (some ⟨g2', 0, none⟩) (i + 1) cap2, .int .i64 (-1)] 89 (0, 0)) := by rw [hY, heapAt_set, hR8]; rfl
        have kb9 : Below w.heap.size w Y := by rw [hY]; exact hb8.setCell (by simp) _
        have HN9 := Lib.hid hN8
        rw [← hY] at HS9 HT9 ⊢
        generalize Value.slice (some ⟨g2', 0, none⟩) (i + 1) cap2 = vT' at *
        clear hY hS8 hT8 hx8 hR8 hb8 hN8 p1 p2 p3 f1 f2 f3 q1 q2 q3 g1 g2 g3 z1 z2
        refine (NS.out _).mono ?_
        rintro e w9 ⟨rfl, hb9⟩
        have hz9 := hb9.size
        have y1 := blk_lt kx9
        have y2 := blk_lt kR9
        have kxA : heapAt w9 w.heap.size = some (.cells #[.int .i64 ((sS D r i).1 : Nat), .int .i64 d, .int .i64 ((sS D r i).2 : Nat)] 86 (0, 0)) := (hb9.block _ y1).trans kx9
        have kRA : heapAt w9 (w.heap.size + 1) = some (.cells #[vS', vT', .int .i64 (-1)] 89 (0, 0)) := (hb9.block _ y2).trans kR9
        have HSA := Lib.hid (HS9.out.below hb9)
        have HTA := Lib.hid (HT9.out.below hb9)
        have kbA : Below w.heap.size w w9 := kb9.trans (hb9.mono (by omega))
        clear kx9 kR9 HS9 HT9 hb9 kb9 y1 y2 hz9
        obtain ⟨z1, p1, p2, p3, f1, f2, f3⟩ := blk3 kxA
        have z2 := blk_lt kRA
        go_wp2_with fail
        go_roundg (gk - 1)
        case measure => omega
        case rel => exact ⟨i + 1, vS', vT', -1, by omega, by omega, Lib.hid (allocL (setL (setL (setL HSA.out (by omega)) (by omega)) (by omega)) _), Lib.hid (allocL (setL (setL (setL HTA.out (by omega)) (by omega)) (by omega)) _), HN9, (heapAt_old (by simp; omega)).trans (by rw [heapAt_set, heapAt_set, heapAt_set, kxA]; rfl), (heapAt_old (by simp; omega)).trans ((heapAt_set_other (by omega)).trans ((heapAt_set_other (by omega)).trans ((heapAt_set_other (by omega)).trans kRA))), (by repeat' (first | (with_reducible exact Below.refl _ _) | (with_reducible assumption) | (with_reducible refine Below.setCell ?_ ?_ _) | (with_reducible refine Below.alloc ?_ ?_ _) | (with_reducible refine Below.drew ?_) | (with_reducible refine below_drewN ?_ _) | (with_reducible refine Below.trans ?_ (Below.mono (by with_reducible assumption) ?_)) | go_size | (simp at *; omega)))⟩
    · have e : i = n + 1 := by omega
      subst e
      have hfi := fiS_back HH.out
      rw [hfi] at FD
      clear hfi
      go_upto_region 2 with fail
      go_region_held3 (fun w' => KeptC (w.heap.size + 1) 2 wr w') (repeat (first | (with_reducible assumption) | (with_reducible exact keptc_refl _ _ _) | (with_reducible refine keptc_alloc ?_) | (with_reducible refine keptc_drew ?_) | (with_reducible refine keptc_set_same ?_) | (with_reducible refine keptc_call ?_ hb1))) (first | (go_at_call 77; refine (FD.out _ (by exact HS.out)).mono ?_; rintro e w1 ⟨rfl, hb1⟩; obtain ⟨hc1, hf1, hl1, hB1⟩ := bcell hb1; (try simp only [World.size_drew, cell_drew, frozen_drew, heapAt_drew] at hc1 hf1 hl1 hB1); have hz1 := hb1.size; (try simp at hz1); (try have hkA := hl1 _ hkA); (try have hkA : _ < w1.heap.size := hz1); (try have hkW : wr.heap.size < w1.heap.size := by omega); (try have hk0 : w.heap.size < w1.heap.size := by omega); (try have hk1 : w.heap.size + 1 < w1.heap.size := by omega); (try have hk2 : w.heap.size + 1 + 1 < w1.heap.size := by omega)))
      have hbw1 : Below wr.heap.size wr w1 := (by repeat' (first | (with_reducible exact Below.refl _ _) | (with_reducible assumption) | (with_reducible refine Below.setCell ?_ ?_ _) | (with_reducible refine Below.alloc ?_ ?_ _) | (with_reducible refine Below.drew ?_) | (with_reducible refine below_drewN ?_ _) | (with_reducible refine Below.trans ?_ (Below.mono (by with_reducible assumption) ?_)) | go_size | (simp at *; omega)))
      have hR1 : heapAt w1 (w.heap.size + 1) = _ := (hbw1.block (w.heap.size + 1) z2).trans hR
      have HT1 := Lib.hid (setL (j := 2) (u := .int .i64 1) (b := w.heap.size + 1) (HT.out.below hbw1) (by omega))
      obtain ⟨V, hV⟩ : ∃ V, V = w1.setCell ⟨w.heap.size + 1, 2, none⟩ (.int .i64 1) := ⟨_, rfl⟩
      have kR : heapAt V (w.heap.size + 1) = some (.cells #[vS, vT, .int .i64 1] 89 (0, 0)) := by rw [hV, heapAt_set, hR1]; rfl
      have kb : Below w.heap.size w V := by rw [hV]; exact (hbel.trans (hbw1.mono (by omega))).setCell (by simp) _
      rw [← hV] at HT1 ⊢
      clear hV hb1 hc1 hf1 hl1 hB1 hz1 hk0 hk1 hbw1 hR1 hbox hR hbel p1 p2 p3 f1 f2 f3 q1 q2 q3 g1 g2 g3 HS HT z1 z2 FD
      obtain ⟨z2, q1, q2, q3, g1, g2, g3⟩ := blk3 kR
      go_wp2
      go_ret2
      exact ⟨w.heap.size + 1, vS, vT, rfl, kR, HT1.out.mono (by omega), fun e => by have := (HT1.out.lt _ e).1; omega, by omega, kb⟩
end Go.Proofs.YtdbbjmcfpfalhaaDoor
