/- The surds of a root up to the first that comes again: the program's walk. -/
import Derived.Test.YtdbbjmcfpfalhaaDoorSurdD
namespace Go.Proofs.YtdbbjmcfpfalhaaDoor
open Go.ChangeShapes Go.WideShapes Go.ChangeAt Go.RowKit
open Go.Maps
set_option linter.unusedVariables false
set_option maxHeartbeats 4000000
set_option maxRecDepth 20000
section
variable {α : Type} {g : α → List Value} {k : Nat} {w w' : World} {B : Nat} {T : TypeId} {v : Value} {L : List α}
theorem grown_set (w : World) (b j : Nat) (u : Value) : w.grownBy (w.setCell ⟨b, j, none⟩ u) (some b) :=
  ⟨rfl, rfl, rfl, by simp, fun i hi hne => heap_setCell_other w ⟨b, j, none⟩ i u (fun e => hne (by rw [e]))⟩
theorem setL (h : Own w B T k g v L) {b j : Nat} {u : Value} (hb : b < B) : Own (w.setCell ⟨b, j, none⟩ u) B T k g v L :=
  h.kept (grown_set w b j u) (.inr (neL h (.inl hb)))
end
/-- The list of surds up to the first that comes again, and its place 1. -/
def RetS (d : Int) (L : List (Nat × Nat)) (w : World) (e : Ending) (w' : World) : Prop :=
  ∃ v, e = .returned (.tuple #[v, .int .i64 1, .bool true]) ∧ OwnS d w' w.heap.size v L ∧ Below w.heap.size w w'
theorem zeroI64 (w : World) : (zeroValue 3).run Tryd.prog w = .ok (.int .i64 0) w := by kernel_rfl
theorem surdsOf_any (d : Int) (D r n : Nat) (H : PerI d D r n) (w : World) :
    Calls Tryd.prog 81 #[.agg #[.int .i64 0, .int .i64 d, .int .i64 1]] w (RetS d (sL D r (n + 1)) w) := by
  have hmm := @run_makeMap Tryd.prog
  obtain ⟨i0', hi, hz0, hz1, hz2⟩ := info_parts infoS
  have HI := Lib.hid (And.intro hi (And.intro hz0 (And.intro hz1 hz2)))
  clear hi hz0 hz1 hz2
  have HH := Lib.hid H
  have hn2 := H.per.n2
  have hn1 := H.per.n1
  clear H
  go_enter Tryd.func81, Tryd.ntmps81
  go_wp2
  go_loopg [5] (n + 2) (fun k v wr => ∃ i : Nat, i + k = n + 2 ∧ i ≤ n + 1 ∧ Hid (OwnS d wr (w.heap.size + 1 + 1) v (sL D r i)) ∧ Hid (wr.ownsMap Tryd.prog 86 (plainElem Tryd.prog 3) (w.heap.size + 1) i (mD d D r i)) ∧
    heapAt wr w.heap.size = some (.cells #[.int .i64 ((sS D r i).1 : Nat), .int .i64 d, .int .i64 ((sS D r i).2 : Nat)] 86 (0, 0)) ∧ w.heap.size + 1 < wr.heap.size ∧ Below w.heap.size w wr)
  case atStart => exact ⟨0, by omega, by omega, Lib.hid (Own.nil _ _ _ _ _), Lib.hid (by have h := World.ownsMap_made (H := Unit) (w.alloc (.cells #[.int .i64 0, .int .i64 d, .int .i64 1] 86)) Tryd.prog 86 (plainElem Tryd.prog 3); simp at h; exact h), by simp [sS, itS], by simp, (by repeat' (first | (with_reducible exact Below.refl _ _) | (with_reducible assumption) | (with_reducible refine Below.setCell ?_ ?_ _) | (with_reducible refine Below.alloc ?_ ?_ _) | (with_reducible refine Below.drew ?_) | (with_reducible refine below_drewN ?_ _) | (with_reducible refine Below.trans ?_ (Below.mono (by with_reducible assumption) ?_)) | go_size | (simp at *; omega)))⟩
  case round =>
    obtain ⟨i, hik, hin, HO, HM, hbox, hsz, hbel⟩ := hrel
    have HK := Lib.hid (kl_spec (HH.out.small (k := i) (by omega)).1 (HH.out.small (k := i) (by omega)).2 HH.out.dsmall)
    obtain ⟨ao, cap, hv⟩ := HO.out.len
    rw [sL_len] at hv
    subst hv
    obtain ⟨-, p1, p2, p3, f1, f2, f3⟩ := blk3 hbox
    by_cases hlt : i ≤ n
    · have hno := mD_no HH.out (j := i) (by omega) i (by omega) (fun j hj => HH.out.per.apart j i hj hlt)
      have X := HH.out.nx (k := i) hlt
      have HX := Lib.hid X
      have NS := Lib.hid (nextSurd_any _ _ _ _ _ _ · X)
      clear X
      go_wp2_with (first | (at_lookup; refine wpList_lookup_own_ok_int _ rfl _ _ 113 rfl 86 3 .i64 lawS Tryd.underlying113 Tryd.underlying3 (zeroI64 _) (w.heap.size + 1) i _ rfl HM.out _ _ rfl HK.out ?_; intro c hat hwc; clear hat hwc) | (at_mapUpdate; refine wpList_mapUpdate_own _ rfl _ _ _ 113 rfl 86 3 lawS Tryd.underlying113 _ (w.heap.size + 1) i _ rfl HM.out (by unfold maxLen; omega) _ _ _ rfl rfl HK.out _ [] (plainElem_int Tryd.underlying3 (wf_small (n := i) (by omega))) ?_))
      intro w1 hown1 hgrow1
      have HM1 := Lib.hid hown1
      have hO1 : OwnS d w1 (w.heap.size + 1 + 1) (.slice ao i cap) (sL D r i) := HO.out.kept hgrow1 (.inr (neL HO.out (.inl (by omega))))
      have hbox1 := (hgrow1.block w.heap.size (by omega) (by simp)).trans hbox
      have hb1 : Below w.heap.size w w1 := hbel.grown hgrow1 (by omega) (fun j hj => by cases hj; omega)
      have hz1 := hgrow1.size
      clear hown1 hgrow1 p1 p2 p3 f1 f2 f3 hno
      obtain ⟨-, p1, p2, p3, f1, f2, f3⟩ := blk3 hbox1
      obtain ⟨hi, hz0, hz1', hz2⟩ := HI.out
      obtain ⟨L, hL⟩ : ∃ L, sL D r i = L := ⟨_, rfl⟩
      have hLl : L.length = i := by rw [← hL, sL_len]
      rw [hL] at hO1
      have HO1 := Lib.hid hO1
      have HL := Lib.hid hL
      clear hL hO1 HO
      generalize Value.slice ao i cap = v at *
      go_wp2_with (at_builtin; refine wpList_append_own _ rfl _ _ 87 rfl (w.heap.size + 1 + 1) 86 i0' (.agg #[.int .i64 0, .int .i64 0, .int .i64 0]) 3 24 Tryd.underlying87 hi hz0 hz1' hz2 rfl (by decide) _ _ _ rfl (World.ownsRow.alloc HO1.out _) ⟨w1.heap.size, 0, none⟩ 1 1 [.int .i64 ((sS D r i).1 : Nat), .int .i64 d, .int .i64 ((sS D r i).2 : Nat)] rfl rfl ?c1 ?c2 ?c3 ?c4 ?c5 ?_)
      case c1 => exact newcs _ _ _ _ rfl
      case c2 => exact three_cellsS _ _ _
      case c3 => unfold maxLen; omega
      case c4 => omega
      case c5 => simp; omega
      intro v' w3 hown' hgrow hnn
      have HN3 := Lib.hid (appS (L := L) (s := sS D r i) (by rw [hLl]; exact hown'))
      have hne : v.ownBlock ≠ some (w.heap.size + 1) := neL HO1.out (.inl (by omega))
      have hb3 : Below w.heap.size w w3 := Below.grown (Below.alloc hb1 (by omega) _) hgrow (by simp; omega) (fun k hk => by have := (HO1.out.lt k hk).1; omega)
      have HM3 := Lib.hid ((HM1.out.alloc (.cells #[.int .i64 ((sS D r i).1 : Nat), .int .i64 d, .int .i64 ((sS D r i).2 : Nat)] 86)).kept hgrow (fun e => hne e.symm))
      have hbox3 : heapAt w3 w.heap.size = _ := (grown_atL hgrow (neL HO1.out (.inl (by omega))) (by simp; omega)).trans ((heapAt_old (by omega)).trans hbox1)
      have hz3 : w1.heap.size + 1 ≤ w3.heap.size := by have := hgrow.size; simp at this; omega
      clear hown' hgrow hnn hi hz0 hz1' hz2 p1 p2 p3 f1 f2 f3
      obtain ⟨z3, p1, p2, p3, f1, f2, f3⟩ := blk3 hbox3
      go_wp2_with fail; refine (NS.out _).mono ?_; rintro e w4 ⟨rfl, hb4⟩; obtain ⟨hc4, hf4, -, hB4⟩ := bcell hb4; have hz4 := hb4.size; (try simp at hz4); (try have hk4_0 : w.heap.size < w4.heap.size := by omega); (try have hk4_1 : w.heap.size + 1 < w4.heap.size := by omega); (try have hk4_2 : w.heap.size + 1 + 1 < w4.heap.size := by omega); (try have hk4_3 : w.heap.size + 1 + 1 + 1 < w4.heap.size := by omega); (try have hk4_4 : wr.heap.size < w4.heap.size := by omega); (try have hk4_5 : wr.heap.size + 1 < w4.heap.size := by omega); (try have hk4_6 : w1.heap.size < w4.heap.size := by omega); (try have hk4_7 : w1.heap.size + 1 < w4.heap.size := by omega); (try have hk4_8 : w2.heap.size < w4.heap.size := by omega); (try have hk4_9 : w2.heap.size + 1 < w4.heap.size := by omega); (try have hk4_10 : w3.heap.size < w4.heap.size := by omega); (try have hk4_11 : w3.heap.size + 1 < w4.heap.size := by omega)
      go_wp2_with fail
      have hb4' : Below w.heap.size w w4 := hb3.trans (hb4.mono (by omega))
      have HN4 := Lib.hid (HN3.out.below hb4)
      have HM4 := Lib.hid (HM3.out.kept (grown_of_below hb4) (by simp))
      have e1 := sL_succ D r i
      rw [HL.out] at e1
      have E1 := Lib.hid e1
      clear e1
      go_roundg (gk - 1)
      case measure => omega
      case rel => exact ⟨i + 1, by omega, by omega, Lib.hid (by rw [E1.out]; exact allocL (setL (setL (setL HN4.out (by omega)) (by omega)) (by omega)) _), Lib.hid ((((HM4.out.setCell (by simp) _).setCell (by simp) _).setCell (by simp) _).alloc _), by simp (disch := (first | omega | (simp; done) | (simp; omega))) [*], by simp; omega, (by repeat' (first | (with_reducible exact Below.refl _ _) | (with_reducible assumption) | (with_reducible refine Below.setCell ?_ ?_ _) | (with_reducible refine Below.alloc ?_ ?_ _) | (with_reducible refine Below.drew ?_) | (with_reducible refine below_drewN ?_ _) | (with_reducible refine Below.trans ?_ (Below.mono (by with_reducible assumption) ?_)) | go_size | (simp at *; omega)))⟩
    · have e : i = n + 1 := by omega
      subst e
      have hback := HH.out.per.back
      have hyes := mD_yes HH.out (j := 1) hn1 (n + 1) (by omega) (by omega)
      rw [← hback] at hyes
      obtain ⟨y1, y2⟩ := hyes
      have Y2 := Lib.hid y2
      have HB := Lib.hid hback
      clear hback y2
      go_wp2_with (first | (at_lookup; refine wpList_lookup_own_ok_int _ rfl _ _ 113 rfl 86 3 .i64 lawS Tryd.underlying113 Tryd.underlying3 (zeroI64 _) (w.heap.size + 1) (n + 1) _ rfl HM.out _ _ rfl HK.out ?_))
      intro c hat hwc
      have hc : c = 1 := by
        have := (Y2.out (.lit (.int .i64 0))).symm.trans hat
        simp at this
        omega
      subst hc
      clear hat hwc
      go_wp2
      exact bodyPost_ret (v := .tuple #[.slice ao (n + 1) cap, .int .i64 1, .bool true]) (by simp [results, Tryd.results81, go_sem]) rfl ⟨_, rfl, HO.out.mono (by omega), hbel⟩
end Go.Proofs.YtdbbjmcfpfalhaaDoor
