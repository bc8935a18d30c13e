/- Numbers that a definite form shows, up to a limit: both packages, and the law. -/
import Derived.Test.YtodbmnbahldabaaDoorRepE
namespace Go.Proofs.YtodbmnbahldabaaDoor
open Go.ChangeShapes Go.WideShapes Go.ChangeAt Go.RowKit
set_option linter.unusedVariables false
set_option maxHeartbeats 1000000
set_option maxRecDepth 20000
def okOf : Int × Int × Bool → Bool
  | (_, _, o) => o
theorem okOf_is (x y : Int) (o : Bool) : okOf (x, y, o) = o := rfl
def shB (a b c : Int) (k : Nat) : Bool := okOf (rpR a b c ((k + 1 : Nat) : Int))
def shF (a b c : Int) : Nat → List Int
  | 0 => []
  | k + 1 => shF a b c k ++ (if shB a b c k = true then [((k + 1 : Nat) : Int)] else [])
theorem shF_step {a b c : Int} {j : Nat} {ok : Bool} (h : okOf (rpR a b c ((j + 1 : Nat) : Int)) = ok) : shF a b c (j + 1) = shF a b c j ++ (if ok = true then [((j + 1 : Nat) : Int)] else []) := by
  rw [shF, shB, h]
theorem sh_len (a b c : Int) (k : Nat) : (shF a b c k).length ≤ k := by
  induction k with
  | zero => simp [shF]
  | succ k ih =>
    unfold shF
    rw [List.length_append]
    split
    · simp; omega
    · simp; omega
def shR (a b c most : Int) : List Int := if chS a b c (inR most 0 300) = 0 then shF a b c most.toNat else []
theorem shR_len (a b c most : Int) : (shR a b c most).length ≤ 1000000 := by
  unfold shR
  split
  · rename_i h
    have h1 := inR_iff.1 (chS_zero h).2.1
    have := sh_len a b c most.toNat
    omega
  · simp
theorem rep_is {a b c n px py : Int} {ok : Bool} (hv : vF a b c = true) (hd : dF a b c < 0) (hn : 1 ≤ n ∧ n ≤ 10000) (h : rpR a b c n = (px, py, ok)) : repR a b c n = if ok = true then (px, py, 0) else (0, 0, 3) := by
  unfold repR
  have hc : chS a b c (inR n 1 10000) = 0 := by
    unfold chS
    rw [if_pos hv, inR_yes hn.1 hn.2, if_pos rfl, if_neg (by omega)]
  rw [if_pos hc, h]
theorem chS_one {a b c : Int} (hv : vF a b c = true) : chS a b c true ≠ 1 := by
  unfold chS
  rw [if_pos hv, if_pos rfl]
  split <;> omega
theorem iShownBy_any (a b c most : Int) (w : World) :
    Calls Tryd.prog 15 #[.agg #[.int .i64 a, .int .i64 b, .int .i64 c], .int .i64 most] w (RetL 2 1 gI1 w (shR a b c most) (chS a b c (inR most 0 300))) := by
  obtain ⟨fits, hfits⟩ : ∃ b, inR most 0 300 = b := ⟨_, rfl⟩
  have HI := Lib.hid hfits
  by_cases hc : chS a b c fits = 0
  · obtain ⟨hv, hf, hd⟩ := chS_zero hc
    have hm := inR_iff.1 (hfits.trans hf)
    subst hf
    have HV := Lib.hid hv
    have HD := Lib.hid hd
    have HC : Hid (chS a b c (inR most 0 300) = 0) := Lib.hid (by rw [hfits]; exact hc)
    have HA : Hid (shF a b c most.toNat = shR a b c most) := Lib.hid (by unfold shR; rw [HC.out, if_pos rfl])
    clear hv hd hfits
    obtain ⟨i0', hi, hz0', hz1, hz2⟩ := info_parts infoI
    have HI0 := Lib.hid (And.intro hi (And.intro hz0' (And.intro hz1 hz2)))
    clear hi hz0' hz1 hz2
    generalize shR a b c most = R at *
    go_enter Tryd.func15, Tryd.ntmps15
    go_wp2_with fail
    have hx0 : heapAt (w.alloc (.cells #[.int .i64 a, .int .i64 b, .int .i64 c] 25)) w.heap.size = some (.cells #[.int .i64 a, .int .i64 b, .int .i64 c] 25 (0, 0)) := (by simp (disch := (first | omega | (simp; done) | (simp; omega))) [*])
    obtain ⟨p0, p1, p2, p3, p4, p5, p6⟩ := blk3 hx0
    go_region_held3 (fun w' => w'.cell? ⟨w.heap.size, 0, none⟩ = some (.int .i64 a) ∧ w'.cell? ⟨w.heap.size, 1, none⟩ = some (.int .i64 b) ∧ w'.cell? ⟨w.heap.size, 2, none⟩ = some (.int .i64 c)) (first | assumption | exact ⟨p1, p2, p3⟩ | (refine ⟨?_, ?_, ?_⟩ <;> ((rw [hc1 _ _ (by first | omega | (simp; done) | (simp; omega))]) <;> first | assumption | exact p1 | exact p2 | exact p3 | (obtain ⟨_, _, _⟩ := ‹World.cell? _ _ = _ ∧ _ ∧ _›; assumption) | (simp [*]; done)))) (first | (go_at_call 29; refine (withinR HI.out _).mono ?_; rintro e w1 ⟨rfl, rfl⟩) | (go_at_call 28; refine (checkShown_any _ _ _ _ _).mono ?_; rintro e w1 ⟨rfl, hb1⟩; obtain ⟨hc1, hf1, hl1, hB1⟩ := bcell hb1; have hz1 := hb1.size; (try simp at hz1); (try have hk0 : w.heap.size < w1.heap.size := by omega); (try have hk1 : w.heap.size + 1 < w1.heap.size := by omega); (try have hk2 : w.heap.size + 1 + 1 < w1.heap.size := by omega)))
    have hbel1 : Below w.heap.size w w1 := (by repeat' (first | (with_reducible exact Below.refl _ _) | (with_reducible assumption) | (with_reducible refine Below.setCell ?_ ?_ _) | (with_reducible refine Below.alloc ?_ ?_ _) | (with_reducible refine Below.drew ?_) | (with_reducible refine below_drewN ?_ _) | (with_reducible refine Below.trans ?_ (Below.mono (by with_reducible assumption) ?_)) | go_size | (simp at *; omega)))
    have hx1 : heapAt w1 w.heap.size = some (.cells #[.int .i64 a, .int .i64 b, .int .i64 c] 25 (0, 0)) := (by simp (disch := (first | omega | (simp; done) | (simp; omega))) [*])
    clear p0 p1 p2 p3 p4 p5 p6 hx0 hb1 hc1 hf1 hl1 hB1
    go_wp2_with fail
    clear hc
    go_loopg [7, 8] (most.toNat + 1) (fun k v u wr => ∃ j : Nat, j + k = most.toNat + 1 ∧ j ≤ most.toNat ∧ u = .int .i64 ((j + 1 : Nat) : Int) ∧ Hid (OwnI wr (w.heap.size + 1) v (shF a b c j)) ∧ heapAt wr w.heap.size = some (.cells #[.int .i64 a, .int .i64 b, .int .i64 c] 25 (0, 0)) ∧ Below w.heap.size w wr)
    case atStart => exact ⟨0, by omega, by omega, rfl, Lib.hid (Own.nil _ _ _ _ _), hx1, hbel1⟩
    case round =>
      obtain ⟨j, hjk, hjm, rfl, HO, hx, hbel⟩ := hrel
      obtain ⟨p0, p1, p2, p3, p4, p5, p6⟩ := blk3 hx
      have hsz := hbel.size
      have hlen := sh_len a b c j
      by_cases hlt : ((j + 1 : Nat) : Int) ≤ most
      · have hj1 : j + 1 ≤ most.toNat := by omega
        have hyb : 1 ≤ ((j + 1 : Nat) : Int) ∧ ((j + 1 : Nat) : Int) ≤ 10000 := by omega
        have hys : ((j + 1 : Nat) : Int) ≤ 300 := by omega
        rcases hrp : rpR a b c ((j + 1 : Nat) : Int) with ⟨px, py, ok⟩
        have HS : Hid (shF a b c (j + 1) = shF a b c j ++ (if ok = true then [((j + 1 : Nat) : Int)] else [])) := Lib.hid (shF_step (by rw [hrp, okOf_is]))
        have RB := Lib.hid (by have h := representBy_any a b c ((j + 1 : Nat) : Int) · HV.out HD.out hyb; rw [hrp] at h; exact h)
        generalize hy : ((j + 1 : Nat) : Int) = y at *
        have HY := Lib.hid hy
        clear hy hrp
        cases ok
        · go_wp2_with fail; refine (RB.out _).mono ?_; rintro e w1 ⟨rfl, hb1⟩; obtain ⟨hc1, hf1, -, hB1⟩ := bcell hb1; have hz1 := hb1.size; (try simp at hz1); (try have hk1_0 : w.heap.size < w1.heap.size := by omega); (try have hk1_1 : w.heap.size + 1 < w1.heap.size := by omega); (try have hk1_2 : w.heap.size + 1 + 1 < w1.heap.size := by omega); (try have hk1_3 : w.heap.size + 1 + 1 + 1 < w1.heap.size := by omega); (try have hk1_4 : wr.heap.size < w1.heap.size := by omega); (try have hk1_5 : wr.heap.size + 1 < w1.heap.size := by omega)
          have HO1 := Lib.hid (HO.out.below hb1)
          have hbel1 : Below w.heap.size w w1 := (by repeat' (first | (with_reducible exact Below.refl _ _) | (with_reducible assumption) | (with_reducible refine Below.setCell ?_ ?_ _) | (with_reducible refine Below.alloc ?_ ?_ _) | (with_reducible refine Below.drew ?_) | (with_reducible refine below_drewN ?_ _) | (with_reducible refine Below.trans ?_ (Below.mono (by with_reducible assumption) ?_)) | go_size | (simp at *; omega)))
          have hx1 : heapAt w1 w.heap.size = some (.cells #[.int .i64 a, .int .i64 b, .int .i64 c] 25 (0, 0)) := (hb1.block _ p0).trans hx
          clear hb1 hc1 hf1 hB1
          go_wp2_with fail
          go_roundg (gk - 1)
          case measure => omega
          case rel => exact ⟨j + 1, by omega, by omega, by rw [← HY.out]; go_num, Lib.hid (by rw [HS.out]; simpa using HO1.out), hx1, hbel1⟩
        · go_wp2_with fail; refine (RB.out _).mono ?_; rintro e w1 ⟨rfl, hb1⟩; obtain ⟨hc1, hf1, -, hB1⟩ := bcell hb1; have hz1 := hb1.size; (try simp at hz1); (try have hk1_0 : w.heap.size < w1.heap.size := by omega); (try have hk1_1 : w.heap.size + 1 < w1.heap.size := by omega); (try have hk1_2 : w.heap.size + 1 + 1 < w1.heap.size := by omega); (try have hk1_3 : w.heap.size + 1 + 1 + 1 < w1.heap.size := by omega); (try have hk1_4 : wr.heap.size < w1.heap.size := by omega); (try have hk1_5 : wr.heap.size + 1 < w1.heap.size := by omega)
          have HO1 := Lib.hid (HO.out.below hb1)
          have hbel1 : Below w.heap.size w w1 := (by repeat' (first | (with_reducible exact Below.refl _ _) | (with_reducible assumption) | (with_reducible refine Below.setCell ?_ ?_ _) | (with_reducible refine Below.alloc ?_ ?_ _) | (with_reducible refine Below.drew ?_) | (with_reducible refine below_drewN ?_ _) | (with_reducible refine Below.trans ?_ (Below.mono (by with_reducible assumption) ?_)) | go_size | (simp at *; omega)))
          have hx1 : heapAt w1 w.heap.size = some (.cells #[.int .i64 a, .int .i64 b, .int .i64 c] 25 (0, 0)) := (hb1.block _ p0).trans hx
          clear hb1 hc1 hf1 hB1
          have hsz1 := hbel1.size
          have hlt1 := blk_lt hx1
          obtain ⟨L, hL⟩ : ∃ L, shF a b c j = L := ⟨_, rfl⟩
          rw [hL] at HO1 hlen
          have HL := Lib.hid hL
          clear hL HO
          obtain ⟨hi, hz0', hz1, hz2⟩ := HI0.out
          go_wp2_with (at_builtin; refine wpList_append_own _ rfl _ _ 36 rfl (w.heap.size + 1) 2 i0' (.int .i64 0) 1 8 Tryd.underlying36 hi hz0' hz1 hz2 rfl (by decide) _ _ _ rfl (World.ownsRow.alloc HO1.out _) ⟨w1.heap.size, 0, none⟩ 1 1 [.int .i64 y] rfl rfl ?c1 ?c2 ?c3 ?c4 ?c5 ?_)
          case c1 => exact newcs _ _ _ _ rfl
          case c2 => exact one_cell _
          case c3 => unfold maxLen; omega
          case c4 => omega
          case c5 => simp; omega
          intro v' w3 hown' hgrow hnn
          have HN := Lib.hid (appI (f := y) hown')
          have hx3 : heapAt w3 w.heap.size = some (.cells #[.int .i64 a, .int .i64 b, .int .i64 c] 25 (0, 0)) := by rw [grown_atL hgrow (neL HO1.out (.inl (by omega))) (by simp; omega), heapAt_old (by omega)]; exact hx1
          have hb3 : Below w.heap.size w w3 := Below.grown (Below.alloc hbel1 (by omega) _) hgrow (by simp; omega) (fun k hk => by have := (HO1.out.lt k hk).1; omega)
          clear hown' hgrow hnn hi hz0' hz1 hz2
          go_wp2
          go_roundg (gk - 1)
          case measure => omega
          case rel => exact ⟨j + 1, by omega, by omega, by rw [← HY.out]; go_num, Lib.hid (by rw [HS.out, HL.out]; simpa using HN.out), hx3, hb3⟩
      · have EQ : Hid (j = most.toNat) := Lib.hid (by omega)
        go_wp2_with fail
        go_ret2
        unfold RetL
        rw [HC.out, ← HA.out, ← EQ.out]
        exact ⟨_, rfl, HO.out.mono (by omega), hbel⟩
  · have HC : Hid (chS a b c (inR most 0 300) = chS a b c fits) := Lib.hid (by rw [hfits])
    have HA : Hid (shR a b c most = []) := Lib.hid (by unfold shR; rw [HC.out, if_neg hc])
    have hcb : (chS a b c fits != 0) = true := by simp [hc]
    clear hc hfits
    go_enter Tryd.func15, Tryd.ntmps15
    go_wp2_with fail
    have hx0 : heapAt (w.alloc (.cells #[.int .i64 a, .int .i64 b, .int .i64 c] 25)) w.heap.size = some (.cells #[.int .i64 a, .int .i64 b, .int .i64 c] 25 (0, 0)) := (by simp (disch := (first | omega | (simp; done) | (simp; omega))) [*])
    obtain ⟨p0, p1, p2, p3, p4, p5, p6⟩ := blk3 hx0
    go_region_held3 (fun w' => w'.cell? ⟨w.heap.size, 0, none⟩ = some (.int .i64 a) ∧ w'.cell? ⟨w.heap.size, 1, none⟩ = some (.int .i64 b) ∧ w'.cell? ⟨w.heap.size, 2, none⟩ = some (.int .i64 c)) (first | assumption | exact ⟨p1, p2, p3⟩ | (refine ⟨?_, ?_, ?_⟩ <;> ((rw [hc1 _ _ (by first | omega | (simp; done) | (simp; omega))]) <;> first | assumption | exact p1 | exact p2 | exact p3 | (obtain ⟨_, _, _⟩ := ‹World.cell? _ _ = _ ∧ _ ∧ _›; assumption) | (simp [*]; done)))) (first | (go_at_call 29; refine (withinR HI.out _).mono ?_; rintro e w1 ⟨rfl, rfl⟩) | (go_at_call 28; refine (checkShown_any _ _ _ _ _).mono ?_; rintro e w1 ⟨rfl, hb1⟩; obtain ⟨hc1, hf1, hl1, hB1⟩ := bcell hb1; have hz1 := hb1.size; (try simp at hz1); (try have hk0 : w.heap.size < w1.heap.size := by omega); (try have hk1 : w.heap.size + 1 < w1.heap.size := by omega); (try have hk2 : w.heap.size + 1 + 1 < w1.heap.size := by omega)))
    have hbel1 : Below w.heap.size w w1 := (by repeat' (first | (with_reducible exact Below.refl _ _) | (with_reducible assumption) | (with_reducible refine Below.setCell ?_ ?_ _) | (with_reducible refine Below.alloc ?_ ?_ _) | (with_reducible refine Below.drew ?_) | (with_reducible refine below_drewN ?_ _) | (with_reducible refine Below.trans ?_ (Below.mono (by with_reducible assumption) ?_)) | go_size | (simp at *; omega)))
    clear p0 p1 p2 p3 p4 p5 p6 hx0 hb1 hc1 hf1 hl1 hB1
    go_wp2_with fail
    go_ret2
    unfold RetL
    rw [HA.out, HC.out]
    exact ⟨_, rfl, Own.nil _ _ _ _ _, hbel1⟩
theorem sShownBy_any (a b c most : Int) (w : World) :
    Calls Tryd.prog 16 #[.agg #[.int .i64 a, .int .i64 b, .int .i64 c], .int .i64 most] w (RetL 2 1 gI1 w (shR a b c most) (chS a b c (inR most 0 300))) := by
  have HX := Lib.hid (by have h := l12Code_any a b c 1; rw [inR_yes (by omega) (by omega)] at h; exact h)
  cases hm0 : inR most 0 300
  · have HC : Hid (chS a b c false = if vF a b c = true then 2 else 1) := Lib.hid (by simp [chS])
    have HA : Hid (shR a b c most = []) := Lib.hid (by
      unfold shR
      rw [hm0, if_neg]
      intro h
      have := (chS_zero h).2.1
      cases this)
    cases hv : vF a b c
    · have hc1' : chS a b c true = 1 := by simp [chS, hv]
      have HV := Lib.hid hv
      clear hv
      go_enter Tryd.func16, Tryd.ntmps16
      go_wp2_with fail
      refine (HX.out _).mono ?_
      rintro e w1 ⟨rfl, hb1⟩
      have hbel1 : Below w.heap.size w w1 := (by repeat' (first | (with_reducible exact Below.refl _ _) | (with_reducible assumption) | (with_reducible refine Below.setCell ?_ ?_ _) | (with_reducible refine Below.alloc ?_ ?_ _) | (with_reducible refine Below.drew ?_) | (with_reducible refine below_drewN ?_ _) | (with_reducible refine Below.trans ?_ (Below.mono (by with_reducible assumption) ?_)) | go_size | (simp at *; omega)))
      go_wp2_with (go_at_call 42; refine (in_any _ _ _ _).mono ?_; rintro e w1 ⟨rfl, rfl⟩)
      go_ret2
      unfold RetL
      rw [HA.out, HC.out, HV.out]
      exact ⟨_, rfl, Own.nil _ _ _ _ _, hbel1⟩
    · have hc1' : (chS a b c true == 1) = false := by
        have := chS_one hv
        simp [this]
      have HV := Lib.hid hv
      clear hv
      go_enter Tryd.func16, Tryd.ntmps16
      go_wp2_with fail
      refine (HX.out _).mono ?_
      rintro e w1 ⟨rfl, hb1⟩
      have hbel1 : Below w.heap.size w w1 := (by repeat' (first | (with_reducible exact Below.refl _ _) | (with_reducible assumption) | (with_reducible refine Below.setCell ?_ ?_ _) | (with_reducible refine Below.alloc ?_ ?_ _) | (with_reducible refine Below.drew ?_) | (with_reducible refine below_drewN ?_ _) | (with_reducible refine Below.trans ?_ (Below.mono (by with_reducible assumption) ?_)) | go_size | (simp at *; omega)))
      go_wp2_with (go_at_call 42; refine (in_any _ _ _ _).mono ?_; rintro e w1 ⟨rfl, rfl⟩)
      go_ret2
      unfold RetL
      rw [HA.out, HC.out, HV.out]
      exact ⟨_, rfl, Own.nil _ _ _ _ _, hbel1⟩
  · have hm := inR_iff.1 hm0
    by_cases hc : chS a b c true = 0
    · obtain ⟨hv, hf, hd⟩ := chS_zero hc
      have HV := Lib.hid hv
      have HD := Lib.hid hd
      have HC : Hid (chS a b c true = 0) := Lib.hid hc
      have HA : Hid (shF a b c most.toNat = shR a b c most) := Lib.hid (by unfold shR; rw [hm0, HC.out, if_pos rfl])
      clear hv hd hf
      obtain ⟨i0', hi, hz0', hz1, hz2⟩ := info_parts infoI
      have HI0 := Lib.hid (And.intro hi (And.intro hz0' (And.intro hz1 hz2)))
      clear hi hz0' hz1 hz2
      generalize shR a b c most = R at *
      go_enter Tryd.func16, Tryd.ntmps16
      go_wp2_with fail
      refine (HX.out _).mono ?_
      rintro e w1 ⟨rfl, hb1⟩
      have hbel1 : Below w.heap.size w w1 := (by repeat' (first | (with_reducible exact Below.refl _ _) | (with_reducible assumption) | (with_reducible refine Below.setCell ?_ ?_ _) | (with_reducible refine Below.alloc ?_ ?_ _) | (with_reducible refine Below.drew ?_) | (with_reducible refine below_drewN ?_ _) | (with_reducible refine Below.trans ?_ (Below.mono (by with_reducible assumption) ?_)) | go_size | (simp at *; omega)))
      have hx1 : heapAt w1 w.heap.size = some (.cells #[.int .i64 a, .int .i64 b, .int .i64 c] 25 (0, 0)) := (hb1.block _ (by simp)).trans (heapAt_new w _)
      have hl1 := blk_lt hx1
      have hsz0 := hbel1.size
      go_wp2_with (go_at_call 42; refine (in_any _ _ _ _).mono ?_; rintro e w1 ⟨rfl, rfl⟩)
      clear hc hm0 hb1
      go_loopg [7, 8] (most.toNat + 1) (fun k v u wr => ∃ j : Nat, j + k = most.toNat + 1 ∧ j ≤ most.toNat ∧ u = .int .i64 ((j + 1 : Nat) : Int) ∧ Hid (OwnI wr (w.heap.size + 1) v (shF a b c j)) ∧ heapAt wr w.heap.size = some (.cells #[.int .i64 a, .int .i64 b, .int .i64 c] 25 (0, 0)) ∧ Below w.heap.size w wr)
      case atStart => exact ⟨0, by omega, by omega, rfl, Lib.hid (Own.empty w1 _ _ _ _ (by omega)), by rw [heapAt_old hl1]; exact hx1, (by repeat' (first | (with_reducible exact Below.refl _ _) | (with_reducible assumption) | (with_reducible refine Below.setCell ?_ ?_ _) | (with_reducible refine Below.alloc ?_ ?_ _) | (with_reducible refine Below.drew ?_) | (with_reducible refine below_drewN ?_ _) | (with_reducible refine Below.trans ?_ (Below.mono (by with_reducible assumption) ?_)) | go_size | (simp at *; omega)))⟩
      case round =>
        obtain ⟨j, hjk, hjm, rfl, HO, hx, hbel⟩ := hrel
        obtain ⟨p0, p1, p2, p3, p4, p5, p6⟩ := blk3 hx
        have hsz := hbel.size
        have hlen := sh_len a b c j
        by_cases hlt : ((j + 1 : Nat) : Int) ≤ most
        · have hj1 : j + 1 ≤ most.toNat := by omega
          have hyb : 1 ≤ ((j + 1 : Nat) : Int) ∧ ((j + 1 : Nat) : Int) ≤ 10000 := by omega
          have hys : ((j + 1 : Nat) : Int) ≤ 300 := by omega
          rcases hrp : rpR a b c ((j + 1 : Nat) : Int) with ⟨px, py, ok⟩
          have HS : Hid (shF a b c (j + 1) = shF a b c j ++ (if ok = true then [((j + 1 : Nat) : Int)] else [])) := Lib.hid (shF_step (by rw [hrp, okOf_is]))
          have RB := Lib.hid (by have h := sRepresentBy_any a b c ((j + 1 : Nat) : Int); rw [rep_is HV.out HD.out hyb hrp] at h; exact h)
          generalize hy : ((j + 1 : Nat) : Int) = y at *
          have HY := Lib.hid hy
          clear hy hrp
          cases ok
          · go_wp2_with fail; refine (RB.out _).mono ?_; rintro e w1 ⟨rfl, hb1⟩; obtain ⟨hc1, hf1, -, hB1⟩ := bcell hb1; have hz1 := hb1.size; (try simp at hz1); (try have hk1_0 : w.heap.size < w1.heap.size := by omega); (try have hk1_1 : w.heap.size + 1 < w1.heap.size := by omega); (try have hk1_2 : w.heap.size + 1 + 1 < w1.heap.size := by omega); (try have hk1_3 : w.heap.size + 1 + 1 + 1 < w1.heap.size := by omega); (try have hk1_4 : wr.heap.size < w1.heap.size := by omega); (try have hk1_5 : wr.heap.size + 1 < w1.heap.size := by omega)
            have HO1 := Lib.hid (HO.out.below hb1)
            have hbel1 : Below w.heap.size w w1 := (by repeat' (first | (with_reducible exact Below.refl _ _) | (with_reducible assumption) | (with_reducible refine Below.setCell ?_ ?_ _) | (with_reducible refine Below.alloc ?_ ?_ _) | (with_reducible refine Below.drew ?_) | (with_reducible refine below_drewN ?_ _) | (with_reducible refine Below.trans ?_ (Below.mono (by with_reducible assumption) ?_)) | go_size | (simp at *; omega)))
            have hx1 : heapAt w1 w.heap.size = some (.cells #[.int .i64 a, .int .i64 b, .int .i64 c] 25 (0, 0)) := (hb1.block _ p0).trans hx
            clear hb1 hc1 hf1 hB1
            go_wp2_with fail
            go_roundg (gk - 1)
            case measure => omega
            case rel => exact ⟨j + 1, by omega, by omega, by rw [← HY.out]; go_num, Lib.hid (by rw [HS.out]; simpa using HO1.out), hx1, hbel1⟩
          · go_wp2_with fail; refine (RB.out _).mono ?_; rintro e w1 ⟨rfl, hb1⟩; obtain ⟨hc1, hf1, -, hB1⟩ := bcell hb1; have hz1 := hb1.size; (try simp at hz1); (try have hk1_0 : w.heap.size < w1.heap.size := by omega); (try have hk1_1 : w.heap.size + 1 < w1.heap.size := by omega); (try have hk1_2 : w.heap.size + 1 + 1 < w1.heap.size := by omega); (try have hk1_3 : w.heap.size + 1 + 1 + 1 < w1.heap.size := by omega); (try have hk1_4 : wr.heap.size < w1.heap.size := by omega); (try have hk1_5 : wr.heap.size + 1 < w1.heap.size := by omega)
            have HO1 := Lib.hid (HO.out.below hb1)
            have hbel1 : Below w.heap.size w w1 := (by repeat' (first | (with_reducible exact Below.refl _ _) | (with_reducible assumption) | (with_reducible refine Below.setCell ?_ ?_ _) | (with_reducible refine Below.alloc ?_ ?_ _) | (with_reducible refine Below.drew ?_) | (with_reducible refine below_drewN ?_ _) | (with_reducible refine Below.trans ?_ (Below.mono (by with_reducible assumption) ?_)) | go_size | (simp at *; omega)))
            have hx1 : heapAt w1 w.heap.size = some (.cells #[.int .i64 a, .int .i64 b, .int .i64 c] 25 (0, 0)) := (hb1.block _ p0).trans hx
            clear hb1 hc1 hf1 hB1
            have hsz1 := hbel1.size
            have hlt1 := blk_lt hx1
            obtain ⟨L, hL⟩ : ∃ L, shF a b c j = L := ⟨_, rfl⟩
            rw [hL] at HO1 hlen
            have HL := Lib.hid hL
            clear hL HO
            obtain ⟨hi, hz0', hz1, hz2⟩ := HI0.out
            go_wp2_with (at_builtin; refine wpList_append_own _ rfl _ _ 36 rfl (w.heap.size + 1) 2 i0' (.int .i64 0) 1 8 Tryd.underlying36 hi hz0' hz1 hz2 rfl (by decide) _ _ _ rfl (World.ownsRow.alloc HO1.out _) ⟨w1.heap.size, 0, none⟩ 1 1 [.int .i64 y] rfl rfl ?c1 ?c2 ?c3 ?c4 ?c5 ?_)
            case c1 => exact newcs _ _ _ _ rfl
            case c2 => exact one_cell _
            case c3 => unfold maxLen; omega
            case c4 => omega
            case c5 => simp; omega
            intro v' w3 hown' hgrow hnn
            have HN := Lib.hid (appI (f := y) hown')
            have hx3 : heapAt w3 w.heap.size = some (.cells #[.int .i64 a, .int .i64 b, .int .i64 c] 25 (0, 0)) := by rw [grown_atL hgrow (neL HO1.out (.inl (by omega))) (by simp; omega), heapAt_old (by omega)]; exact hx1
            have hb3 : Below w.heap.size w w3 := Below.grown (Below.alloc hbel1 (by omega) _) hgrow (by simp; omega) (fun k hk => by have := (HO1.out.lt k hk).1; omega)
            clear hown' hgrow hnn hi hz0' hz1 hz2
            go_wp2
            go_roundg (gk - 1)
            case measure => omega
            case rel => exact ⟨j + 1, by omega, by omega, by rw [← HY.out]; go_num, Lib.hid (by rw [HS.out, HL.out]; simpa using HN.out), hx3, hb3⟩
        · have EQ : Hid (j = most.toNat) := Lib.hid (by omega)
          go_wp2_with fail
          go_ret2
          unfold RetL
          rw [HC.out, ← HA.out, ← EQ.out]
          exact ⟨_, rfl, HO.out.mono (by omega), hbel⟩
    · have HC := Lib.hid hc
      have HA : Hid (shR a b c most = []) := Lib.hid (by unfold shR; rw [hm0, if_neg hc])
      have hcb : (chS a b c true != 0) = true := by simp [hc]
      by_cases h1 : chS a b c true = 1
      · have h1b : (chS a b c true == 1) = true := by simp [h1]
        clear hc h1
        go_enter Tryd.func16, Tryd.ntmps16
        go_wp2_with fail
        refine (HX.out _).mono ?_
        rintro e w1 ⟨rfl, hb1⟩
        have hbel1 : Below w.heap.size w w1 := (by repeat' (first | (with_reducible exact Below.refl _ _) | (with_reducible assumption) | (with_reducible refine Below.setCell ?_ ?_ _) | (with_reducible refine Below.alloc ?_ ?_ _) | (with_reducible refine Below.drew ?_) | (with_reducible refine below_drewN ?_ _) | (with_reducible refine Below.trans ?_ (Below.mono (by with_reducible assumption) ?_)) | go_size | (simp at *; omega)))
        go_wp2_with (go_at_call 42; refine (in_any _ _ _ _).mono ?_; rintro e w1 ⟨rfl, rfl⟩)
        go_ret2
        unfold RetL
        rw [HA.out]
        exact ⟨_, rfl, Own.nil _ _ _ _ _, hbel1⟩
      · have h1b : (chS a b c true == 1) = false := by simp [h1]
        clear hc h1
        go_enter Tryd.func16, Tryd.ntmps16
        go_wp2_with fail
        refine (HX.out _).mono ?_
        rintro e w1 ⟨rfl, hb1⟩
        have hbel1 : Below w.heap.size w w1 := (by repeat' (first | (with_reducible exact Below.refl _ _) | (with_reducible assumption) | (with_reducible refine Below.setCell ?_ ?_ _) | (with_reducible refine Below.alloc ?_ ?_ _) | (with_reducible refine Below.drew ?_) | (with_reducible refine below_drewN ?_ _) | (with_reducible refine Below.trans ?_ (Below.mono (by with_reducible assumption) ?_)) | go_size | (simp at *; omega)))
        go_wp2_with (go_at_call 42; refine (in_any _ _ _ _).mono ?_; rintro e w1 ⟨rfl, rfl⟩)
        go_ret2
        unfold RetL
        rw [HA.out]
        exact ⟨_, rfl, Own.nil _ _ _ _ _, hbel1⟩
end Go.Proofs.YtodbmnbahldabaaDoor
