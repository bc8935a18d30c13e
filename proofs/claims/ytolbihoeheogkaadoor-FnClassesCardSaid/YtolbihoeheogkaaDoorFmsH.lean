/- The cycle of a reduced form: the reference. -/
import Derived.Test.YtolbihoeheogkaaDoorFmsG
namespace Go.Proofs.YtolbihoeheogkaaDoor
open Go.ChangeShapes Go.WideShapes Go.ChangeAt Go.RowKit
set_option linter.unusedVariables false
set_option maxHeartbeats 1000000
def stp (f : Fm) : Fm := stepF f.a f.b f.c
def vFm (f : Fm) : Bool := vF f.a f.b f.c
/-- The forms behind one another till the first comes again; none if there are too many. -/
def cyF (f : Fm) : Nat → Fm → List Fm → Option (List Fm)
  | 0, _, _ => none
  | k + 1, x, L => if eqFm x f = true then some L else if vFm x = true then cyF f k (stp x) (L ++ [x]) else none
theorem cy_eq {f x : Fm} {k : Nat} {L : List Fm} (h : eqFm x f = true) : cyF f (k + 1) x L = some L := by unfold cyF; rw [if_pos h]
theorem cy_bad {f x : Fm} {k : Nat} {L : List Fm} (h : eqFm x f = false) (hv : vFm x = false) : cyF f (k + 1) x L = none := by unfold cyF; rw [h, hv]; simp
theorem cy_full {f x : Fm} {L : List Fm} (h : eqFm x f = false) : cyF f 1 x L = none := by
  unfold cyF
  rw [h, if_neg (by simp)]
  split <;> rfl
theorem cy_go {f x : Fm} {k : Nat} {L : List Fm} (h : eqFm x f = false) (hv : vFm x = true) : cyF f (k + 1) x L = cyF f k (stp x) (L ++ [x]) := by
  conv => lhs; unfold cyF
  rw [h, hv, if_neg (by simp), if_pos rfl]
def cyR (f : Fm) : Option (List Fm) := if dF f.a f.b f.c < 0 then some [f] else cyF f 1000 (stp f) [f]
def RetFO (w : World) (o : Option (List Fm)) (e : Ending) (w' : World) : Prop :=
  (∃ L v, o = some L ∧ e = .returned (.tuple #[v, .bool true]) ∧ OwnF w' w.heap.size v L ∧ Below w.heap.size w w') ∨ (o = none ∧ e = .returned (.tuple #[.slice none 0 0, .bool false]) ∧ Below w.heap.size w w')
theorem own_lit {w : World} {B : Nat} (f : Fm) (hB : B ≤ w.heap.size) : OwnF (w.alloc (.cells #[.int .i64 f.a, .int .i64 f.b, .int .i64 f.c] 25)) B (.slice (some ⟨w.heap.size, 0, none⟩) 1 1) [f] :=
  World.ownsRow_lit (base := B) (e := 25) (size := 3) w #[.int .i64 f.a, .int .i64 f.b, .int .i64 f.c] 1 hB (by unfold maxLen; omega) (by simp)
theorem own_alloc {w : World} {B : Nat} {v : Value} {L : List Fm} (h : OwnF w B v L) (o : Obj) : OwnF (w.alloc o) B v L := World.ownsRow.alloc h o
theorem own_set {w : World} {B : Nat} {v : Value} {L : List Fm} (h : OwnF w B v L) {b i : Nat} (hne : v.ownBlock ≠ some b) (u : Value) : OwnF (w.setCell ⟨b, i, none⟩ u) B v L := ownsRow_setCell_other h hne u
theorem grown_at {w w' : World} {v : Value} {b : Nat} (hg : w.grownBy w' v.ownBlock) (hne : v.ownBlock ≠ some b) (hb : b < w.heap.size) : heapAt w' b = heapAt w b := hg.block b hb (fun e => hne e.symm)
theorem own_ne {w : World} {B : Nat} {v : Value} {L : List Fm} (h : OwnF w B v L) {b : Nat} (hb : b < B ∨ w.heap.size ≤ b) : v.ownBlock ≠ some b := by
  intro e
  have := h.lt b e
  omega
theorem l11Cycle_any (f : Fm) (w : World) (hv : vFm f = true) :
    Calls Tryd.prog 28 #[.agg #[.int .i64 f.a, .int .i64 f.b, .int .i64 f.c]] w (RetFO w (cyR f)) := by
  obtain ⟨a1, b1, c1⟩ := vF_in hv
  have h0 := vF_c hv
  by_cases hd : dF f.a f.b f.c < 0
  · have HR : Hid (cyR f = some [f]) := Lib.hid (by simp [cyR, hd])
    clear hv
    go_enter Tryd.func28, Tryd.ntmps28
    go_wp2_with fail; refine (l11Disc_any _ _ _ _ a1 b1 c1).mono ?_; rintro e w1 ⟨rfl, hb1⟩; obtain ⟨hc1, hf1, -, hB1⟩ := bcell hb1; have hz1 := hb1.size; (try simp at hz1); (try have hk1_0 : w.heap.size < w1.heap.size := by omega); (try have hk1_1 : w.heap.size + 1 < w1.heap.size := by omega); (try have hk1_2 : w.heap.size + 1 + 1 < w1.heap.size := by omega); (try have hk1_3 : w.heap.size + 1 + 1 + 1 < w1.heap.size := by omega); (try have hk1_4 : wr.heap.size < w1.heap.size := by omega); (try have hk1_5 : wr.heap.size + 1 < w1.heap.size := by omega)
    have HO := Lib.hid ((own_lit (w := w.alloc (.cells #[.int .i64 f.a, .int .i64 f.b, .int .i64 f.c] 25)) (B := w.heap.size) f (by simp)).below hb1)
    go_wp2_with fail
    go_ret2
    unfold RetFO
    refine .inl ⟨[f], _, HR.out, rfl, ?_, (by repeat' (first | (with_reducible exact Below.refl _ _) | (with_reducible assumption) | (with_reducible refine Below.setCell ?_ ?_ _) | (with_reducible refine Below.alloc ?_ ?_ _) | (with_reducible refine Below.drew ?_) | (with_reducible refine below_drewN ?_ _) | (with_reducible refine Below.trans ?_ (Below.mono (by with_reducible assumption) ?_)) | go_size | (simp at *; omega)))⟩
    have h := HO.out
    simp only [World.size_alloc] at h
    exact h
  · have HR : Hid (cyF f 1000 (stp f) [f] = cyR f) := Lib.hid (by simp [cyR, hd])
    clear hv
    generalize cyR f = R at *
    obtain ⟨i0, hi, hz0, hz1, hz2⟩ := info_parts infoF
    have HI := Lib.hid (And.intro hi (And.intro hz0 (And.intro hz1 hz2)))
    clear hi hz0 hz1 hz2
    have hd' : (dF f.a f.b f.c < 0) = False := eq_false hd
    go_enter Tryd.func28, Tryd.ntmps28
    go_wp2_with fail; refine (l11Disc_any _ _ _ _ a1 b1 c1).mono ?_; rintro e w1 ⟨rfl, hb1⟩; obtain ⟨hc1, hf1, -, hB1⟩ := bcell hb1; have hz1 := hb1.size; (try simp at hz1); (try have hk1_0 : w.heap.size < w1.heap.size := by omega); (try have hk1_1 : w.heap.size + 1 < w1.heap.size := by omega); (try have hk1_2 : w.heap.size + 1 + 1 < w1.heap.size := by omega); (try have hk1_3 : w.heap.size + 1 + 1 + 1 < w1.heap.size := by omega); (try have hk1_4 : wr.heap.size < w1.heap.size := by omega); (try have hk1_5 : wr.heap.size + 1 < w1.heap.size := by omega)
    go_wp2_with fail; refine (l11Step_any _ _ _ _ a1 b1 c1 h0).mono ?_; rintro e w2 ⟨rfl, hb2⟩; obtain ⟨hc2, hf2, -, hB2⟩ := bcell hb2; have hz2 := hb2.size; (try simp at hz2); (try have hk2_0 : w.heap.size < w2.heap.size := by omega); (try have hk2_1 : w.heap.size + 1 < w2.heap.size := by omega); (try have hk2_2 : w.heap.size + 1 + 1 < w2.heap.size := by omega); (try have hk2_3 : w.heap.size + 1 + 1 + 1 < w2.heap.size := by omega); (try have hk2_4 : wr.heap.size < w2.heap.size := by omega); (try have hk2_5 : wr.heap.size + 1 < w2.heap.size := by omega); (try have hk2_6 : w1.heap.size < w2.heap.size := by omega); (try have hk2_7 : w1.heap.size + 1 < w2.heap.size := by omega)
    have ho := ((own_lit (w := w.alloc (.cells #[.int .i64 f.a, .int .i64 f.b, .int .i64 f.c] 25)) (B := w.heap.size + 1) f (by simp)).below hb1).below hb2
    simp only [World.size_alloc] at ho
    have HO := Lib.hid ho
    clear ho
    go_wp2_with fail
    go_loopg [4, 5] 1000 (fun k v u wr => ∃ (x : Fm) (L : List Fm) (b : Nat), u = .pointer (some ⟨b, 0, none⟩) ∧ w.heap.size < b ∧ L.length + k = 1001 ∧ 1 ≤ k ∧ Hid (OwnF wr (w.heap.size + 1) v L) ∧ Hid (v.ownBlock ≠ some b) ∧ Hid (cyF f k x L = R) ∧
      heapAt wr b = some (.cells #[.int .i64 x.a, .int .i64 x.b, .int .i64 x.c] 25 (0, 0)) ∧ heapAt wr w.heap.size = some (.cells #[.int .i64 f.a, .int .i64 f.b, .int .i64 f.c] 25 (0, 0)) ∧ Below w.heap.size w wr)
    case atStart => exact ⟨stepF f.a f.b f.c, [f], w2.heap.size, rfl, by omega, rfl, by omega, Lib.hid (World.ownsRow.alloc HO.out _), Lib.hid (own_ne HO.out (.inr (Nat.le_refl _))), HR, (by simp (disch := (first | omega | (simp; done) | (simp; omega))) [*]), (by simp (disch := (first | omega | (simp; done) | (simp; omega))) [*]), (by repeat' (first | (with_reducible exact Below.refl _ _) | (with_reducible assumption) | (with_reducible refine Below.setCell ?_ ?_ _) | (with_reducible refine Below.alloc ?_ ?_ _) | (with_reducible refine Below.drew ?_) | (with_reducible refine below_drewN ?_ _) | (with_reducible refine Below.trans ?_ (Below.mono (by with_reducible assumption) ?_)) | go_size | (simp at *; omega)))⟩
    case round =>
      obtain ⟨x, L, b, rfl, hb, hL, hk, HP, HN, HC, hx0, hf0, hbel⟩ := hrel
      clear hb1 hc1 hf1 hB1 hb2 hc2 hf2 hB2
      obtain ⟨ao, cap, rfl⟩ := HP.out.len
      obtain ⟨p0, p1, p2, p3, p4, p5, p6⟩ := blk3 hx0
      obtain ⟨q0, q1, q2, q3, q4, q5, q6⟩ := blk3 hf0
      have hsz := hbel.size
      have e1 := neqF
      have e2 := guardF
      obtain ⟨k', rfl⟩ : ∃ k', gk = k' + 1 := ⟨gk - 1, by omega⟩
      cases he : eq6 x.a x.b x.c f.a f.b f.c
      · by_cases hfull : L.length = 1000
        · have hk0 : k' = 0 := by omega
          subst hk0
          have HE : Hid (R = none) := Lib.hid (HC.out.symm.trans (cy_full he))
          have hl : (1000 : Int) ≤ (L.length : Int) := by omega
          clear hfull
          go_wp2_with fail
          go_ret2
          unfold RetFO
          exact .inr ⟨HE.out, rfl, (by repeat' (first | (with_reducible exact Below.refl _ _) | (with_reducible assumption) | (with_reducible refine Below.setCell ?_ ?_ _) | (with_reducible refine Below.alloc ?_ ?_ _) | (with_reducible refine Below.drew ?_) | (with_reducible refine below_drewN ?_ _) | (with_reducible refine Below.trans ?_ (Below.mono (by with_reducible assumption) ?_)) | go_size | (simp at *; omega)))⟩
        · have hl : ¬ (1000 : Int) ≤ (L.length : Int) := by omega
          cases hv : vF x.a x.b x.c
          · have HE : Hid (R = none) := Lib.hid (HC.out.symm.trans (cy_bad he hv))
            clear hfull
            go_wp2_with fail; refine (l11Ok_any _ _ _ _).mono ?_; rintro e w1 ⟨rfl, hb1⟩; obtain ⟨hc1, hf1, -, hB1⟩ := bcell hb1; have hz1 := hb1.size; (try simp at hz1); (try have hk1_0 : w.heap.size < w1.heap.size := by omega); (try have hk1_1 : w.heap.size + 1 < w1.heap.size := by omega); (try have hk1_2 : w.heap.size + 1 + 1 < w1.heap.size := by omega); (try have hk1_3 : w.heap.size + 1 + 1 + 1 < w1.heap.size := by omega); (try have hk1_4 : wr.heap.size < w1.heap.size := by omega); (try have hk1_5 : wr.heap.size + 1 < w1.heap.size := by omega)
            go_wp2_with fail
            go_ret2
            unfold RetFO
            exact .inr ⟨HE.out, rfl, (by repeat' (first | (with_reducible exact Below.refl _ _) | (with_reducible assumption) | (with_reducible refine Below.setCell ?_ ?_ _) | (with_reducible refine Below.alloc ?_ ?_ _) | (with_reducible refine Below.drew ?_) | (with_reducible refine below_drewN ?_ _) | (with_reducible refine Below.trans ?_ (Below.mono (by with_reducible assumption) ?_)) | go_size | (simp at *; omega)))⟩
          · have HE : Hid (cyF f k' (stp x) (L ++ [x]) = R) := Lib.hid ((cy_go he hv).symm.trans HC.out)
            obtain ⟨x1, x2, x3⟩ := vF_in hv
            have x0 := vF_c hv
            clear hfull
            go_wp2_with fail; refine (l11Ok_any _ _ _ _).mono ?_; rintro e w1 ⟨rfl, hb1⟩; obtain ⟨hc1, hf1, -, hB1⟩ := bcell hb1; have hz1 := hb1.size; (try simp at hz1); (try have hk1_0 : w.heap.size < w1.heap.size := by omega); (try have hk1_1 : w.heap.size + 1 < w1.heap.size := by omega); (try have hk1_2 : w.heap.size + 1 + 1 < w1.heap.size := by omega); (try have hk1_3 : w.heap.size + 1 + 1 + 1 < w1.heap.size := by omega); (try have hk1_4 : wr.heap.size < w1.heap.size := by omega); (try have hk1_5 : wr.heap.size + 1 < w1.heap.size := by omega)
            have HP2 := Lib.hid (HP.out.below (w' := w1) (by repeat' (first | (with_reducible exact Below.refl _ _) | (with_reducible assumption) | (with_reducible refine Below.setCell ?_ ?_ _) | (with_reducible refine Below.alloc ?_ ?_ _) | (with_reducible refine Below.drew ?_) | (with_reducible refine below_drewN ?_ _) | (with_reducible refine Below.trans ?_ (Below.mono (by with_reducible assumption) ?_)) | go_size | (simp at *; omega))))
            have hbel1 : Below w.heap.size w w1 := (by repeat' (first | (with_reducible exact Below.refl _ _) | (with_reducible assumption) | (with_reducible refine Below.setCell ?_ ?_ _) | (with_reducible refine Below.alloc ?_ ?_ _) | (with_reducible refine Below.drew ?_) | (with_reducible refine below_drewN ?_ _) | (with_reducible refine Below.trans ?_ (Below.mono (by with_reducible assumption) ?_)) | go_size | (simp at *; omega)))
            have hsz1 := hbel1.size
            have hxb : heapAt w1 b = some (.cells #[.int .i64 x.a, .int .i64 x.b, .int .i64 x.c] 25 (0, 0)) := (hb1.block b p0).trans hx0
            have hfb : heapAt w1 w.heap.size = some (.cells #[.int .i64 f.a, .int .i64 f.b, .int .i64 f.c] 25 (0, 0)) := (hb1.block _ q0).trans hf0
            have hbl : b < w1.heap.size := blk_lt hxb
            obtain ⟨hi, hz0, hz1, hz2⟩ := HI.out
            go_wp2_with (at_builtin; refine wpList_append_own _ rfl _ _ 33 rfl (w.heap.size + 1) 25 i0 (.agg #[.int .i64 0, .int .i64 0, .int .i64 0]) 3 24 Tryd.underlying33 hi hz0 hz1 hz2 rfl (by decide) _ _ _ rfl (World.ownsRow.alloc HP2.out _) ⟨w1.heap.size, 0, none⟩ 1 1 [.int .i64 x.a, .int .i64 x.b, .int .i64 x.c] rfl rfl ?c1 ?c2 ?c3 ?c4 ?c5 ?_)
            case c1 => exact new_cells _ _ _ _ rfl
            case c2 => exact three_cells _ _ _
            case c3 => unfold maxLen; omega
            case c4 => omega
            case c5 => simp; omega
            intro v' w3 hown' hgrow hnn
            have hnb : Value.ownBlock (.slice ao L.length cap) ≠ some w.heap.size := own_ne HP2.out (.inl (by omega))
            have hx3 : heapAt w3 b = some (.cells #[.int .i64 x.a, .int .i64 x.b, .int .i64 x.c] 25 (0, 0)) := by rw [grown_at hgrow HN.out (by simp; omega), heapAt_old hbl]; exact hxb
            have hf3 : heapAt w3 w.heap.size = some (.cells #[.int .i64 f.a, .int .i64 f.b, .int .i64 f.c] 25 (0, 0)) := by rw [grown_at hgrow hnb (by simp; omega), heapAt_old (by omega)]; exact hfb
            have HN3 := Lib.hid (app_one (w := w) (v := v') (f := x) hown')
            have hb3 : Below w.heap.size w w3 := Below.grown (Below.alloc hbel1 (by omega) _) hgrow (by simp; omega) (fun k hk => by have := (HP2.out.lt k hk).1; omega)
            have hsz3 := hb3.size
            have hbl3 : b < w3.heap.size := blk_lt hx3
            have hfl3 : w.heap.size < w3.heap.size := blk_lt hf3
            clear hown' hgrow hnn hi hz0 hz1 hz2 hb1 hc1 hf1 hB1 hxb hfb hnb p0 p1 p2 p3 p4 p5 p6 q0 q1 q2 q3 q4 q5 q6 hx0 hf0
            obtain ⟨p0, p1, p2, p3, p4, p5, p6⟩ := blk3 hx3
            go_wp2_with fail; refine (l11Step_any _ _ _ _ x1 x2 x3 x0).mono ?_; rintro e w4 ⟨rfl, hb4⟩; obtain ⟨hc4, hf4, -, hB4⟩ := bcell hb4; have hz4 := hb4.size; (try simp at hz4); (try have hk4_0 : w.heap.size < w4.heap.size := by omega); (try have hk4_1 : w.heap.size + 1 < w4.heap.size := by omega); (try have hk4_2 : w.heap.size + 1 + 1 < w4.heap.size := by omega); (try have hk4_3 : w.heap.size + 1 + 1 + 1 < w4.heap.size := by omega); (try have hk4_4 : wr.heap.size < w4.heap.size := by omega); (try have hk4_5 : wr.heap.size + 1 < w4.heap.size := by omega); (try have hk4_6 : w1.heap.size < w4.heap.size := by omega); (try have hk4_7 : w1.heap.size + 1 < w4.heap.size := by omega); (try have hk4_8 : w2.heap.size < w4.heap.size := by omega); (try have hk4_9 : w2.heap.size + 1 < w4.heap.size := by omega); (try have hk4_10 : w3.heap.size < w4.heap.size := by omega); (try have hk4_11 : w3.heap.size + 1 < w4.heap.size := by omega)
            have HP4 := Lib.hid ((own_alloc HN3.out _).below hb4)
            have HN4 := Lib.hid (own_ne HN3.out (b := w3.heap.size) (.inr (Nat.le_refl _)))
            go_wp2_with fail
            go_roundg k'
            case measure => omega
            case rel => exact ⟨stepF x.a x.b x.c, L ++ [x], w3.heap.size, rfl, by omega, by simp; omega, by omega, Lib.hid (own_set (own_set (own_set HP4.out HN4.out _) HN4.out _) HN4.out _), HN4, HE, (by simp (disch := (first | omega | (simp; done) | (simp; omega))) [*]), (by simp (disch := (first | omega | (simp; done) | (simp; omega))) [*]), (by repeat' (first | (with_reducible exact Below.refl _ _) | (with_reducible assumption) | (with_reducible refine Below.setCell ?_ ?_ _) | (with_reducible refine Below.alloc ?_ ?_ _) | (with_reducible refine Below.drew ?_) | (with_reducible refine below_drewN ?_ _) | (with_reducible refine Below.trans ?_ (Below.mono (by with_reducible assumption) ?_)) | go_size | (simp at *; omega)))⟩
      · have HE : Hid (R = some L) := Lib.hid (HC.out.symm.trans (cy_eq he))
        go_wp2_with fail
        go_ret2
        unfold RetFO
        exact .inl ⟨L, _, HE.out, rfl, HP.out.mono (by omega), (by repeat' (first | (with_reducible exact Below.refl _ _) | (with_reducible assumption) | (with_reducible refine Below.setCell ?_ ?_ _) | (with_reducible refine Below.alloc ?_ ?_ _) | (with_reducible refine Below.drew ?_) | (with_reducible refine below_drewN ?_ _) | (with_reducible refine Below.trans ?_ (Below.mono (by with_reducible assumption) ?_)) | go_size | (simp at *; omega)))⟩
end Go.Proofs.YtolbihoeheogkaaDoor
