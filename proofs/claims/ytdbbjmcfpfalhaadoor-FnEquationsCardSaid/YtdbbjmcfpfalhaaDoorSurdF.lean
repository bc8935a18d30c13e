/- The head and the period of a root: the program's walk. -/
import Derived.Test.YtdbbjmcfpfalhaaDoorSurdE
import Derived.Test.YtdbbjmcfpfalhaaDoorI64s
namespace Go.Proofs.YtdbbjmcfpfalhaaDoor
open Go.ChangeShapes Go.WideShapes Go.ChangeAt Go.RowKit
set_option linter.unusedVariables false
set_option maxHeartbeats 4000000
set_option maxRecDepth 20000
section
variable {α β : Type} {g : α → List Value} {g' : β → List Value} {k k' : Nat} {w w' : World} {B C : Nat} {T T' : TypeId} {v v' : Value} {L : List α} {M : List β}
/-- A list whose row is older than C is kept where a list from C on is appended to. -/
theorem asideC (h : Own w B T k g v L) (hlt : ∀ b, v.ownBlock = some b → b < C) (h2 : Own w C T' k' g' v' M) (hg : w.grownBy w' v'.ownBlock) : Own w' B T k g v L := by
  refine h.kept hg ?_
  cases hv : v.ownBlock with
  | none => exact .inl rfl
  | some b =>
    right
    intro e
    have h3 := hlt b hv
    have h4 := h2.lt b e.symm
    omega
end
/-- The k-th term. -/
def sA (D r k : Nat) : Nat := ((sS D r k).1 + r) / (sS D r k).2
/-- The first k terms of the period. -/
def pL (D r k : Nat) : List Int := (List.range k).map fun j => (sA D r (j + 1) : Int)
theorem pL_succ (D r k : Nat) : pL D r (k + 1) = pL D r k ++ [(sA D r (k + 1) : Int)] := by simp [pL, List.range_succ]
theorem pL_len (D r k : Nat) : (pL D r k).length = k := by simp [pL]
theorem pL_at (D r k i : Nat) (h : i < (pL D r k).length) : (pL D r k)[i] = (sA D r (i + 1) : Int) := by simp [pL]
theorem PerI.a {d : Int} {D r n : Nat} (H : PerI d D r n) {k : Nat} (hk : k ≤ n) : 1 ≤ sA D r k ∧ sA D r k ≤ 198 := by
  have X := H.nx hk
  have h0 := X.a0
  have h1 := X.a1
  unfold sA
  omega
theorem PerI.fl {d : Int} {D r n : Nat} (H : PerI d D r n) {k : Nat} (hk : k ≤ n) : fl ((sS D r k).1 + rt d) (sS D r k).2 = (sA D r k : Int) := (H.nx hk).fa
/-- Head and period, each a list of the call's own. -/
def RetHP (D r n : Nat) (w : World) (e : Ending) (w' : World) : Prop :=
  ∃ v1 v2, e = .returned (.tuple #[v1, v2, .bool true]) ∧ OwnI w' w.heap.size v1 [(sA D r 0 : Int)] ∧ OwnI w' w.heap.size v2 (pL D r n) ∧ Below w.heap.size w w'
/-- What the loop has made of the first i surds; blocks from B on. -/
def HPs (D r B : Nat) (wr : World) (v1 v2 : Value) : Nat → Prop
  | 0 => v1 = .slice none 0 0 ∧ v2 = .slice none 0 0
  | i + 1 => ∃ C, B ≤ C ∧ C ≤ wr.heap.size ∧ OwnI wr B v1 [(sA D r 0 : Int)] ∧ (∀ b, v1.ownBlock = some b → b < C) ∧ OwnI wr C v2 (pL D r i)
theorem periodOf_any (d : Int) (D r n : Nat) (H : PerI d D r n) (w : World) :
    Calls Tryd.prog 71 #[.agg #[.int .i64 0, .int .i64 d, .int .i64 1]] w (RetHP D r n w) := by
  obtain ⟨i0', hi, hz0, hz1, hz2⟩ := info_parts infoI
  have HI := Lib.hid (And.intro hi (And.intro hz0 (And.intro hz1 hz2)))
  clear hi hz0 hz1 hz2
  have HS := Lib.hid (surdsOf_any d D r n H ·)
  have HH := Lib.hid H
  have hn2 := H.per.n2
  have hn1 := H.per.n1
  have hdm := H.dsmall
  clear H
  go_enter Tryd.func71, Tryd.ntmps71
  go_wp2_with fail
  refine (HS.out _).mono ?_
  rintro e w1 ⟨vL, rfl, hOL, hb1⟩
  have hz1 := hb1.size
  simp at hz1
  rcases hOL.shape with ⟨h0, -⟩ | ⟨-, bL, cL, rfl, hL1, hLb, -⟩
  · have := congrArg List.length h0
    rw [sL_len] at this
    simp at this
  rw [sL_len]
  have HO := Lib.hid hOL
  clear hOL hL1
  go_wp2_with fail
  go_loopg [8, 9, 22] (n + 2) (fun k v1 v2 u wr => ∃ i : Nat, u = .int .i64 i ∧ i + k = n + 2 ∧ i ≤ n + 1 ∧ Hid (HPs D r w1.heap.size wr v1 v2 i) ∧ Hid (OwnS d wr (w.heap.size + 1) (.slice (some ⟨bL, 0, none⟩) (sL D r (n + 1)).length cL) (sL D r (n + 1))) ∧ w1.heap.size ≤ wr.heap.size ∧ Below w.heap.size w wr)
  case atStart => exact ⟨0, rfl, by omega, by omega, Lib.hid ⟨rfl, rfl⟩, Lib.hid (by simpa using HO.out), by omega, (by repeat' (first | (with_reducible exact Below.refl _ _) | (with_reducible assumption) | (with_reducible refine Below.setCell ?_ ?_ _) | (with_reducible refine Below.alloc ?_ ?_ _) | (with_reducible refine Below.drew ?_) | (with_reducible refine below_drewN ?_ _) | (with_reducible refine Below.trans ?_ (Below.mono (by with_reducible assumption) ?_)) | go_size | (simp at *; omega)))⟩
  case round =>
    obtain ⟨i, rfl, hik, hin, HP, HL, hzr, hbel⟩ := hrel
    by_cases hlt : i < n + 1
    · have hidx : i < (sL D r (n + 1)).length := by rw [sL_len]; exact hlt
      obtain ⟨p1, p2, p3⟩ := OwnS.cells HL.out i hidx
      rw [sL_at] at p1 p3
      have hsm := HH.out.small (k := i) (by omega)
      have hX := HH.out.nx (k := i) (by omega)
      have hq0 := hX.q0
      have FS := Lib.hid (by have h := floorSurd_any ((sS D r i).1 : Nat) d ((sS D r i).2 : Nat) · ⟨by omega, by omega⟩ hdm ⟨by omega, by omega⟩; rw [HH.out.fl (k := i) (by omega)] at h; exact h)
      have ha := HH.out.a (k := i) (by omega)
      have i0 : (0 : Int) ≤ (i : Int) := by omega
      have i1 : (i : Int) < ((n + 1 : Nat) : Int) := by omega
      have hltI : (i : Int) < (n : Int) + 1 := by omega
      clear hX
      cases i with
      | zero =>
        obtain ⟨rfl, rfl⟩ := HP.out
        go_wp2_with fail; refine (FS.out _).mono ?_; rintro e w2 ⟨rfl, hb2⟩; obtain ⟨hc2, hf2, -, hB2⟩ := bcell hb2; have hz2 := hb2.size; (try simp at hz2); (try have hk2_0 : w.heap.size < w2.heap.size := by omega); (try have hk2_1 : w.heap.size + 1 < w2.heap.size := by omega); (try have hk2_2 : w.heap.size + 1 + 1 < w2.heap.size := by omega); (try have hk2_3 : w.heap.size + 1 + 1 + 1 < w2.heap.size := by omega); (try have hk2_4 : wr.heap.size < w2.heap.size := by omega); (try have hk2_5 : wr.heap.size + 1 < w2.heap.size := by omega); (try have hk2_6 : w1.heap.size < w2.heap.size := by omega); (try have hk2_7 : w1.heap.size + 1 < w2.heap.size := by omega)
        obtain ⟨hi, hz0, hz1', hz2⟩ := HI.out
        go_wp2_with (at_builtin; refine wpList_append_own _ rfl _ _ 51 rfl w1.heap.size 2 i0' (.int .i64 0) 1 8 Tryd.underlying51 hi hz0 hz1' hz2 rfl (by decide) _ _ _ rfl (World.ownsRow.alloc (Own.nil (g := gI1) w2 w1.heap.size 2 1) _) ⟨w2.heap.size, 0, none⟩ 1 1 [.int .i64 (sA D r 0 : Nat)] rfl rfl ?c1 ?c2 ?c3 ?c4 ?c5 ?_)
        case c1 => exact newcs _ _ _ _ rfl
        case c2 => exact one_cell _
        case c3 => simp [maxLen]
        case c4 => simp
        case c5 => simp; omega
        intro v' w3 hown' hgrow hnn
        have HN3 := Lib.hid (appI (L := []) (f := (sA D r 0 : Int)) hown')
        have hL2 := Lib.hid (HL.out.below (w' := w2) (by repeat' (first | (with_reducible exact Below.refl _ _) | (with_reducible assumption) | (with_reducible refine Below.setCell ?_ ?_ _) | (with_reducible refine Below.alloc ?_ ?_ _) | (with_reducible refine Below.drew ?_) | (with_reducible refine below_drewN ?_ _) | (with_reducible refine Below.trans ?_ (Below.mono (by with_reducible assumption) ?_)) | go_size | (simp at *; omega))))
        have hbel2 : Below w.heap.size w w2 := (by repeat' (first | (with_reducible exact Below.refl _ _) | (with_reducible assumption) | (with_reducible refine Below.setCell ?_ ?_ _) | (with_reducible refine Below.alloc ?_ ?_ _) | (with_reducible refine Below.drew ?_) | (with_reducible refine below_drewN ?_ _) | (with_reducible refine Below.trans ?_ (Below.mono (by with_reducible assumption) ?_)) | go_size | (simp at *; omega)))
        have hL3 := Lib.hid ((allocL hL2.out (.cells #[.int .i64 (sA D r 0 : Nat)] 2)).kept hgrow (.inr (by simp [Value.ownBlock])))
        have hb3 : Below w.heap.size w w3 := Below.grown (Below.alloc hbel2 (by omega) _) hgrow (by simp; omega) (fun k hk => by cases hk)
        have hz3 : w2.heap.size + 1 ≤ w3.heap.size := by have := hgrow.size; simp at this; omega
        clear hown' hgrow hnn hi hz0 hz1' hz2
        go_wp2_with fail
        go_roundg (gk - 1)
        case measure => omega
        case rel => exact ⟨1, by go_num, by omega, by omega, Lib.hid ⟨w3.heap.size, by omega, Nat.le_refl _, HN3.out, fun b hb => (HN3.out.lt b hb).2, Own.nil _ _ _ _ _⟩, hL3, by omega, hb3⟩
      | succ i =>
        obtain ⟨C, c1, c2, o1, lt1, o2⟩ := HP.out
        have O1 := Lib.hid o1
        have O2 := Lib.hid o2
        have LT := Lib.hid lt1
        clear o1 o2 lt1
        have hge : decide (((i + 1 : Nat) : Int) < 1) = false := by simp; omega
        go_wp2_with fail; refine (FS.out _).mono ?_; rintro e w2 ⟨rfl, hb2⟩; obtain ⟨hc2, hf2, -, hB2⟩ := bcell hb2; have hz2 := hb2.size; (try simp at hz2); (try have hk2_0 : w.heap.size < w2.heap.size := by omega); (try have hk2_1 : w.heap.size + 1 < w2.heap.size := by omega); (try have hk2_2 : w.heap.size + 1 + 1 < w2.heap.size := by omega); (try have hk2_3 : w.heap.size + 1 + 1 + 1 < w2.heap.size := by omega); (try have hk2_4 : wr.heap.size < w2.heap.size := by omega); (try have hk2_5 : wr.heap.size + 1 < w2.heap.size := by omega); (try have hk2_6 : w1.heap.size < w2.heap.size := by omega); (try have hk2_7 : w1.heap.size + 1 < w2.heap.size := by omega)
        have P2 := Lib.hid (O2.out.below (w' := w2) (by repeat' (first | (with_reducible exact Below.refl _ _) | (with_reducible assumption) | (with_reducible refine Below.setCell ?_ ?_ _) | (with_reducible refine Below.alloc ?_ ?_ _) | (with_reducible refine Below.drew ?_) | (with_reducible refine below_drewN ?_ _) | (with_reducible refine Below.trans ?_ (Below.mono (by with_reducible assumption) ?_)) | go_size | (simp at *; omega))))
        have P1 := Lib.hid (O1.out.below (w' := w2) (by repeat' (first | (with_reducible exact Below.refl _ _) | (with_reducible assumption) | (with_reducible refine Below.setCell ?_ ?_ _) | (with_reducible refine Below.alloc ?_ ?_ _) | (with_reducible refine Below.drew ?_) | (with_reducible refine below_drewN ?_ _) | (with_reducible refine Below.trans ?_ (Below.mono (by with_reducible assumption) ?_)) | go_size | (simp at *; omega))))
        have hL2 := Lib.hid (HL.out.below (w' := w2) (by repeat' (first | (with_reducible exact Below.refl _ _) | (with_reducible assumption) | (with_reducible refine Below.setCell ?_ ?_ _) | (with_reducible refine Below.alloc ?_ ?_ _) | (with_reducible refine Below.drew ?_) | (with_reducible refine below_drewN ?_ _) | (with_reducible refine Below.trans ?_ (Below.mono (by with_reducible assumption) ?_)) | go_size | (simp at *; omega))))
        have hbel2 : Below w.heap.size w w2 := (by repeat' (first | (with_reducible exact Below.refl _ _) | (with_reducible assumption) | (with_reducible refine Below.setCell ?_ ?_ _) | (with_reducible refine Below.alloc ?_ ?_ _) | (with_reducible refine Below.drew ?_) | (with_reducible refine below_drewN ?_ _) | (with_reducible refine Below.trans ?_ (Below.mono (by with_reducible assumption) ?_)) | go_size | (simp at *; omega)))
        obtain ⟨M, hM⟩ : ∃ M, pL D r i = M := ⟨_, rfl⟩
        rw [hM] at P2
        have hMl : M.length = i := by rw [← hM, pL_len]
        have e1 := pL_succ D r i
        rw [hM] at e1
        have E1 := Lib.hid e1
        clear e1 hM HP O1 O2
        obtain ⟨hi, hz0, hz1', hz2⟩ := HI.out
        go_wp2_with (at_builtin; refine wpList_append_own _ rfl _ _ 51 rfl C 2 i0' (.int .i64 0) 1 8 Tryd.underlying51 hi hz0 hz1' hz2 rfl (by decide) _ _ _ rfl (World.ownsRow.alloc P2.out _) ⟨w2.heap.size, 0, none⟩ 1 1 [.int .i64 (sA D r (i + 1) : Nat)] rfl rfl ?c1 ?c2 ?c3 ?c4 ?c5 ?_)
        case c1 => exact newcs _ _ _ _ rfl
        case c2 => exact one_cell _
        case c3 => unfold maxLen; omega
        case c4 => omega
        case c5 => simp; omega
        intro v' w3 hown' hgrow hnn
        have HN3 := Lib.hid (appI (L := M) (f := (sA D r (i + 1) : Int)) (by rw [hMl]; exact hown'))
        have hL3 := Lib.hid (asideC (C := C) (allocL hL2.out (.cells #[.int .i64 (sA D r (i + 1) : Nat)] 2)) (fun b hb => by cases hb; show bL < C; omega) (allocL P2.out _) hgrow)
        have hP3 := Lib.hid (asideC (C := C) (allocL P1.out (.cells #[.int .i64 (sA D r (i + 1) : Nat)] 2)) LT.out (allocL P2.out _) hgrow)
        have hb3 : Below w.heap.size w w3 := Below.grown (Below.alloc hbel2 (by omega) _) hgrow (by simp; omega) (fun k hk => by have := (P2.out.lt k hk).1; omega)
        have hz3 : w2.heap.size + 1 ≤ w3.heap.size := by have := hgrow.size; simp at this; omega
        clear hown' hgrow hnn hi hz0 hz1' hz2
        go_wp2_with fail
        go_roundg (gk - 1)
        case measure => omega
        case rel => exact ⟨i + 1 + 1, by go_num, by omega, by omega, Lib.hid ⟨C, by omega, by omega, hP3.out, LT.out, by rw [E1.out]; exact HN3.out⟩, hL3, by omega, hb3⟩
    · have e : i = n + 1 := by omega
      subst e
      obtain ⟨C, c1, c2, o1, lt1, o2⟩ := HP.out
      go_wp2
      exact bodyPost_ret (v := .tuple #[u8, u9, .bool true]) (by simp [results, Tryd.results71, go_sem]) rfl ⟨u8, u9, rfl, o1.mono (by omega), o2.mono (by omega), hbel⟩
end Go.Proofs.YtdbbjmcfpfalhaaDoor
