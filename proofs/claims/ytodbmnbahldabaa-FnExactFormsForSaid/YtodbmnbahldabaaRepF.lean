/- Numbers that a definite form shows, up to a limit: both packages, and the law. -/
import Derived.Test.YtodbmnbahldabaaRepE
namespace Go.Proofs.Ytodbmnbahldabaa
open Go.ChangeShapes Go.WideShapes Go.ChangeAt Go.RowKit
set_option linter.unusedVariables false
set_option maxHeartbeats 1000000
def okOf : Int × Int × Bool → Bool
  | (_, _, o) => o
theorem okOf_is (x y : Int) (o : Bool) : okOf (x, y, o) = o := rfl
def shB (a b c : Int) (k : Nat) : Bool := okOf (rpR a b c ((k + 1 : Nat) : Int))
def shF (a b c : Int) : Nat → List Int
  | 0 => []
  | k + 1 => shF a b c k ++ (if shB a b c k = true then [((k + 1 : Nat) : Int)] else [])
theorem shF_step {a b c : Int} {j : Nat} {ok : Bool} (h : okOf (rpR a b c ((j + 1 : Nat) : Int)) = ok) : shF a b c (j + 1) = shF a b c j ++ (if ok = true then [((j + 1 : Nat) : Int)] else []) := by
  rw [shF, shB, h]
theorem sh_len (a b c : Int) (k : Nat) : (shF a b c k).length ≤ k := by
  induction k with
  | zero => simp [shF]
  | succ k ih =>
    unfold shF
    rw [List.length_append]
    split
    · simp; omega
    · simp; omega
def shR (a b c most : Int) : List Int := if chS a b c (inR most 0 300) = 0 then shF a b c most.toNat else []
theorem shR_len (a b c most : Int) : (shR a b c most).length ≤ 1000000 := by
  unfold shR
  split
  · rename_i h
    have h1 := inR_iff.1 (chS_zero h).2.1
    have := sh_len a b c most.toNat
    omega
  · simp
theorem rep_is {a b c n px py : Int} {ok : Bool} (hv : vF a b c = true) (hd : dF a b c < 0) (hn : 1 ≤ n ∧ n ≤ 10000) (h : rpR a b c n = (px, py, ok)) : repR a b c n = if ok = true then (px, py, 0) else (0, 0, 3) := by
  unfold repR
  have hc : chS a b c (inR n 1 10000) = 0 := by
    unfold chS
    rw [if_pos hv, inR_yes hn.1 hn.2, if_pos rfl, if_neg (by omega)]
  rw [if_pos hc, h]
theorem chS_one {a b c : Int} (hv : vF a b c = true) : chS a b c true ≠ 1 := by
  unfold chS
  rw [if_pos hv, if_pos rfl]
  split <;> omega
theorem iShownBy_any (a b c most : Int) (w : World) :
    Calls Try.prog 30 #[.agg #[.int .i64 a, .int .i64 b, .int .i64 c], .int .i64 most] w (RetL 2 1 gI1 w (shR a b c most) (chS a b c (inR most 0 300))) := by
  obtain ⟨fits, hfits⟩ : ∃ b, inR most 0 300 = b := ⟨_, rfl⟩
  have HI := Lib.hid hfits
  by_cases hc : chS a b c fits = 0
  · obtain ⟨hv, hf, hd⟩ := chS_zero hc
    have hm := inR_iff.1 (hfits.trans hf)
    subst hf
    have HV := Lib.hid hv
    have HD := Lib.hid hd
    have HC : Hid (chS a b c (inR most 0 300) = 0) := Lib.hid (by rw [hfits]; exact hc)
    have HA : Hid (shF a b c most.toNat = shR a b c most) := Lib.hid (by unfold shR; rw [HC.out, if_pos rfl])
    clear hv hd hfits
    obtain ⟨i0', hi, hz0', hz1, hz2⟩ := info_parts infoI
    have HI0 := Lib.hid (And.intro hi (And.intro hz0' (And.intro hz1 hz2)))
    clear hi hz0' hz1 hz2
    generalize shR a b c most = R at *
    go_enter Try.func30, Try.ntmps30
    go_wp2_with fail
    have hx0 : heapAt (w.alloc (.cells #[.int .i64 a, .int .i64 b, .int .i64 c] 35)) w.heap.size = some (.cells #[.int .i64 a, .int .i64 b, .int .i64 c] 35 (0, 0)) := (by simp (disch := (first | omega | (simp; done) | (simp; omega))) [*])
    obtain ⟨p0, p1, p2, p3, p4, p5, p6⟩ := blk3 hx0
    go_region_held3 (fun w' => w'.cell? ⟨w.heap.size, 0, none⟩ = some (.int .i64 a) ∧ w'.cell? ⟨w.heap.size, 1, none⟩ = some (.int .i64 b) ∧ w'.cell? ⟨w.heap.size, 2, none⟩ = some (.int .i64 c)) (first | assumption | exact ⟨p1, p2, p3⟩ | (refine ⟨?_, ?_, ?_⟩ <;> ((rw [hc1 _ _ (by first | omega | (simp; done) | (simp; omega))]) <;> first | assumption | exact p1 | exact p2 | exact p3 | (obtain ⟨_, _, _⟩ := ‹World.cell? _ _ = _ ∧ _ ∧ _›; assumption) | (simp [*]; done)))) (first | (go_at_call 41; refine (withinR HI.out _).mono ?_; rintro e w1 ⟨rfl, rfl⟩) | (go_at_call 53; refine (checkShown_any _ _ _ _ _).mono ?_; rintro e w1 ⟨rfl, hb1⟩; obtain ⟨hc1, hf1, hl1, hB1⟩ := bcell hb1; have hz1 := hb1.size; (try simp at hz1); (try have hk0 : w.heap.size < w1.heap.size := by omega); (try have hk1 : w.heap.size + 1 < w1.heap.size := by omega); (try have hk2 : w.heap.size + 1 + 1 < w1.heap.size := by omega)))
    have hbel1 : Below w.heap.size w w1 := (by repeat' (first | (with_reducible exact Below.refl _ _) | (with_reducible assumption) | (with_reducible refine Below.setCell ?_ ?_ _) | (with_reducible refine Below.alloc ?_ ?_ _) | (with_reducible refine Below.drew ?_) | (with_reducible refine below_drewN ?_ _) | (with_reducible refine Below.trans ?_ (Below.mono (by with_reducible assumption) ?_)) | go_size | (simp at *; omega)))
    have hx1 : heapAt w1 w.heap.size = some (.cells #[.int .i64 a, .int .i64 b, .int .i64 c] 35 (0, 0)) := (by simp (disch := (first | omega | (simp; done) | (simp; omega))) [*])
    clear p0 p1 p2 p3 p4 p5 p6 hx0 hb1 hc1 hf1 hl1 hB1
    go_wp2_with fail
    clear hc
    go_loopg [7, 8] (most.toNat + 1) (fun k v u wr => ∃ j : Nat, j + k = most.toNat + 1 ∧ j ≤ most.toNat ∧ u = .int .i64 ((j + 1 : Nat) : Int) ∧ Hid (OwnI wr (w.heap.size + 1) v (shF a b c j)) ∧ heapAt wr w.heap.size = some (.cells #[.int .i64 a, .int .i64 b, .int .i64 c] 35 (0, 0)) ∧ Below w.heap.size w wr)
    case atStart => exact ⟨0, by omega, by omega, rfl, Lib.hid (Own.nil _ _ _ _ _), hx1, hbel1⟩
    case round =>
      obtain ⟨j, hjk, hjm, rfl, HO, hx, hbel⟩ := hrel
      obtain ⟨p0, p1, p2, p3, p4, p5, p6⟩ := blk3 hx
      have hsz := hbel.size
      have hlen := sh_len a b c j
      by_cases hlt : ((j + 1 : Nat) : Int) ≤ most
      · have hj1 : j + 1 ≤ most.toNat := by omega
        have hyb : 1 ≤ ((j + 1 : Nat) : Int) ∧ ((j + 1 : Nat) : Int) ≤ 10000 := by omega
        have hys : ((j + 1 : Nat) : Int) ≤ 300 := by omega
        rcases hrp : rpR a b c ((j + 1 : Nat) : Int) with ⟨px, py, ok⟩
        have HS : Hid (shF a b c (j + 1) = shF a b c j ++ (if ok = true then [((j + 1 : Nat) : Int)] else [])) := Lib.hid (shF_step (by rw [hrp, okOf_is]))
        have RB := Lib.hid (by have h := representBy_any a b c ((j + 1 : Nat) : Int) · HV.out HD.out hyb; rw [hrp] at h; exact h)
        generalize hy : ((j + 1 : Nat) : Int) = y at *
        have HY := Lib.hid hy
        clear hy hrp
        cases ok
        · go_wp2_with fail; refine (RB.out _).mono ?_; rintro e w1 ⟨rfl, hb1⟩; obtain ⟨hc1, hf1, -, hB1⟩ := bcell hb1; have hz1 := hb1.size; (try simp at hz1); (try have hk1_0 : w.heap.size < w1.heap.size := by omega); (try have hk1_1 : w.heap.size + 1 < w1.heap.size := by omega); (try have hk1_2 : w.heap.size + 1 + 1 < w1.heap.size := by omega); (try have hk1_3 : wr.heap.size < w1.heap.size := by omega); (try have hk1_4 : wr.heap.size + 1 < w1.heap.size := by omega)
          have HO1 := Lib.hid (HO.out.below hb1)
          have hbel1 : Below w.heap.size w w1 := (by repeat' (first | (with_reducible exact Below.refl _ _) | (with_reducible assumption) | (with_reducible refine Below.setCell ?_ ?_ _) | (with_reducible refine Below.alloc ?_ ?_ _) | (with_reducible refine Below.drew ?_) | (with_reducible refine below_drewN ?_ _) | (with_reducible refine Below.trans ?_ (Below.mono (by with_reducible assumption) ?_)) | go_size | (simp at *; omega)))
          have hx1 : heapAt w1 w.heap.size = some (.cells #[.int .i64 a, .int .i64 b, .int .i64 c] 35 (0, 0)) := (hb1.block _ p0).trans hx
          clear hb1 hc1 hf1 hB1
          go_wp2_with fail
          go_roundg (gk - 1)
          case measure => omega
          case rel => exact ⟨j + 1, by omega, by omega, by rw [← HY.out]; go_num, Lib.hid (by rw [HS.out]; simpa using HO1.out), hx1, hbel1⟩
        · go_wp2_with fail; refine (RB.out _).mono ?_; rintro e w1 ⟨rfl, hb1⟩; obtain ⟨hc1, hf1, -, hB1⟩ := bcell hb1; have hz1 := hb1.size; (try simp at hz1); (try have hk1_0 : w.heap.size < w1.heap.size := by omega); (try have hk1_1 : w.heap.size + 1 < w1.heap.size := by omega); (try have hk1_2 : w.heap.size + 1 + 1 < w1.heap.size := by omega); (try have hk1_3 : wr.heap.size < w1.heap.size := by omega); (try have hk1_4 : wr.heap.size + 1 < w1.heap.size := by omega)
          have HO1 := Lib.hid (HO.out.below hb1)
          have hbel1 : Below w.heap.size w w1 := (by repeat' (first | (with_reducible exact Below.refl _ _) | (with_reducible assumption) | (with_reducible refine Below.setCell ?_ ?_ _) | (with_reducible refine Below.alloc ?_ ?_ _) | (with_reducible refine Below.drew ?_) | (with_reducible refine below_drewN ?_ _) | (with_reducible refine Below.trans ?_ (Below.mono (by with_reducible assumption) ?_)) | go_size | (simp at *; omega)))
          have hx1 : heapAt w1 w.heap.size = some (.cells #[.int .i64 a, .int .i64 b, .int .i64 c] 35 (0, 0)) := (hb1.block _ p0).trans hx
          clear hb1 hc1 hf1 hB1
          have hsz1 := hbel1.size
          have hlt1 := blk_lt hx1
          obtain ⟨L, hL⟩ : ∃ L, shF a b c j = L := ⟨_, rfl⟩
          rw [hL] at HO1 hlen
          have HL := Lib.hid hL
          clear hL HO
          obtain ⟨hi, hz0', hz1, hz2⟩ := HI0.out
          go_wp2_with (at_builtin; refine wpList_append_own _ rfl _ _ 39 rfl (w.heap.size + 1) 2 i0' (.int .i64 0) 1 8 Try.underlying39 hi hz0' hz1 hz2 rfl (by decide) _ _ _ rfl (World.ownsRow.alloc HO1.out _) ⟨w1.heap.size, 0, none⟩ 1 1 [.int .i64 y] rfl rfl ?c1 ?c2 ?c3 ?c4 ?c5 ?_)
          case c1 => exact newcs _ _ _ _ rfl
          case c2 => exact one_cell _
          case c3 => unfold maxLen; omega
          case c4 => omega
          case c5 => simp; omega
          intro v' w3 hown' hgrow hnn
          have HN := Lib.hid (appI (f := y) hown')
          have hx3 : heapAt w3 w.heap.size = some (.cells #[.int .i64 a, .int .i64 b, .int .i64 c] 35 (0, 0)) := by rw [grown_atL hgrow (neL HO1.out (.inl (by omega))) (by simp; omega), heapAt_old (by omega)]; exact hx1
          have hb3 : Below w.heap.size w w3 := Below.grown (Below.alloc hbel1 (by omega) _) hgrow (by simp; omega) (fun k hk => by have := (HO1.out.lt k hk).1; omega)
          clear hown' hgrow hnn hi hz0' hz1 hz2
          go_wp2
          go_roundg (gk - 1)
          case measure => omega
          case rel => exact ⟨j + 1, by omega, by omega, by rw [← HY.out]; go_num, Lib.hid (by rw [HS.out, HL.out]; simpa using HN.out), hx3, hb3⟩
      · have EQ : Hid (j = most.toNat) := Lib.hid (by omega)
        go_wp2_with fail
        go_ret2
        unfold RetL
        rw [HC.out, ← HA.out, ← EQ.out]
        exact ⟨_, rfl, HO.out.mono (by omega), hbel⟩
  · have HC : Hid (chS a b c (inR most 0 300) = chS a b c fits) := Lib.hid (by rw [hfits])
    have HA : Hid (shR a b c most = []) := Lib.hid (by unfold shR; rw [HC.out, if_neg hc])
    have hcb : (chS a b c fits != 0) = true := by simp [hc]
    clear hc hfits
    go_enter Try.func30, Try.ntmps30
    go_wp2_with fail
    have hx0 : heapAt (w.alloc (.cells #[.int .i64 a, .int .i64 b, .int .i64 c] 35)) w.heap.size = some (.cells #[.int .i64 a, .int .i64 b, .int .i64 c] 35 (0, 0)) := (by simp (disch := (first | omega | (simp; done) | (simp; omega))) [*])
    obtain ⟨p0, p1, p2, p3, p4, p5, p6⟩ := blk3 hx0
    go_region_held3 (fun w' => w'.cell? ⟨w.heap.size, 0, none⟩ = some (.int .i64 a) ∧ w'.cell? ⟨w.heap.size, 1, none⟩ = some (.int .i64 b) ∧ w'.cell? ⟨w.heap.size, 2, none⟩ = some (.int .i64 c)) (first | assumption | exact ⟨p1, p2, p3⟩ | (refine ⟨?_, ?_, ?_⟩ <;> ((rw [hc1 _ _ (by first | omega | (simp; done) | (simp; omega))]) <;> first | assumption | exact p1 | exact p2 | exact p3 | (obtain ⟨_, _, _⟩ := ‹World.cell? _ _ = _ ∧ _ ∧ _›; assumption) | (simp [*]; done)))) (first | (go_at_call 41; refine (withinR HI.out _).mono ?_; rintro e w1 ⟨rfl, rfl⟩) | (go_at_call 53; refine (checkShown_any _ _ _ _ _).mono ?_; rintro e w1 ⟨rfl, hb1⟩; obtain ⟨hc1, hf1, hl1, hB1⟩ := bcell hb1; have hz1 := hb1.size; (try simp at hz1); (try have hk0 : w.heap.size < w1.heap.size := by omega); (try have hk1 : w.heap.size + 1 < w1.heap.size := by omega); (try have hk2 : w.heap.size + 1 + 1 < w1.heap.size := by omega)))
    have hbel1 : Below w.heap.size w w1 := (by repeat' (first | (with_reducible exact Below.refl _ _) | (with_reducible assumption) | (with_reducible refine Below.setCell ?_ ?_ _) | (with_reducible refine Below.alloc ?_ ?_ _) | (with_reducible refine Below.drew ?_) | (with_reducible refine below_drewN ?_ _) | (with_reducible refine Below.trans ?_ (Below.mono (by with_reducible assumption) ?_)) | go_size | (simp at *; omega)))
    clear p0 p1 p2 p3 p4 p5 p6 hx0 hb1 hc1 hf1 hl1 hB1
    go_wp2_with fail
    go_ret2
    unfold RetL
    rw [HA.out, HC.out]
    exact ⟨_, rfl, Own.nil _ _ _ _ _, hbel1⟩
theorem sShownBy_any (a b c most : Int) (w : World) :
    Calls Try.prog 29 #[.agg #[.int .i64 a, .int .i64 b, .int .i64 c], .int .i64 most] w (RetL 2 1 gI1 w (shR a b c most) (chS a b c (inR most 0 300))) := by
  have HX := Lib.hid (by have h := l12Code_any a b c 1; rw [inR_yes (by omega) (by omega)] at h; exact h)
  cases hm0 : inR most 0 300
  · have HC : Hid (chS a b c false = if vF a b c = true then 2 else 1) := Lib.hid (by simp [chS])
    have HA : Hid (shR a b c most = []) := Lib.hid (by
      unfold shR
      rw [hm0, if_neg]
      intro h
      have := (chS_zero h).2.1
      cases this)
    cases hv : vF a b c
    · have hc1' : chS a b c true = 1 := by simp [chS, hv]
      have HV := Lib.hid hv
      clear hv
      go_enter Try.func29, Try.ntmps29
      go_wp2_with fail
      refine (HX.out _).mono ?_
      rintro e w1 ⟨rfl, hb1⟩
      have hbel1 : Below w.heap.size w w1 := (by repeat' (first | (with_reducible exact Below.refl _ _) | (with_reducible assumption) | (with_reducible refine Below.setCell ?_ ?_ _) | (with_reducible refine Below.alloc ?_ ?_ _) | (with_reducible refine Below.drew ?_) | (with_reducible refine below_drewN ?_ _) | (with_reducible refine Below.trans ?_ (Below.mono (by with_reducible assumption) ?_)) | go_size | (simp at *; omega)))
      go_wp2_with (go_at_call 46; refine (in_any _ _ _ _).mono ?_; rintro e w1 ⟨rfl, rfl⟩)
      go_ret2
      unfold RetL
      rw [HA.out, HC.out, HV.out]
      exact ⟨_, rfl, Own.nil _ _ _ _ _, hbel1⟩
    · have hc1' : (chS a b c true == 1) = false := by
        have := chS_one hv
        simp [this]
      have HV := Lib.hid hv
      clear hv
      go_enter Try.func29, Try.ntmps29
      go_wp2_with fail
      refine (HX.out _).mono ?_
      rintro e w1 ⟨rfl, hb1⟩
      have hbel1 : Below w.heap.size w w1 := (by repeat' (first | (with_reducible exact Below.refl _ _) | (with_reducible assumption) | (with_reducible refine Below.setCell ?_ ?_ _) | (with_reducible refine Below.alloc ?_ ?_ _) | (with_reducible refine Below.drew ?_) | (with_reducible refine below_drewN ?_ _) | (with_reducible refine Below.trans ?_ (Below.mono (by with_reducible assumption) ?_)) | go_size | (simp at *; omega)))
      go_wp2_with (go_at_call 46; refine (in_any _ _ _ _).mono ?_; rintro e w1 ⟨rfl, rfl⟩)
      go_ret2
      unfold RetL
      rw [HA.out, HC.out, HV.out]
      exact ⟨_, rfl, Own.nil _ _ _ _ _, hbel1⟩
  · have hm := inR_iff.1 hm0
    by_cases hc : chS a b c true = 0
    · obtain ⟨hv, hf, hd⟩ := chS_zero hc
      have HV := Lib.hid hv
      have HD := Lib.hid hd
      have HC : Hid (chS a b c true = 0) := Lib.hid hc
      have HA : Hid (shF a b c most.toNat = shR a b c most) := Lib.hid (by unfold shR; rw [hm0, HC.out, if_pos rfl])
      clear hv hd hf
      obtain ⟨i0', hi, hz0', hz1, hz2⟩ := info_parts infoI
      have HI0 := Lib.hid (And.intro hi (And.intro hz0' (And.intro hz1 hz2)))
      clear hi hz0' hz1 hz2
      generalize shR a b c most = R at *
      go_enter Try.func29, Try.ntmps29
      go_wp2_with fail
      refine (HX.out _).mono ?_
      rintro e w1 ⟨rfl, hb1⟩
      have hbel1 : Below w.heap.size w w1 := (by repeat' (first | (with_reducible exact Below.refl _ _) | (with_reducible assumption) | (with_reducible refine Below.setCell ?_ ?_ _) | (with_reducible refine Below.alloc ?_ ?_ _) | (with_reducible refine Below.drew ?_) | (with_reducible refine below_drewN ?_ _) | (with_reducible refine Below.trans ?_ (Below.mono (by with_reducible assumption) ?_)) | go_size | (simp at *; omega)))
      have hx1 : heapAt w1 w.heap.size = some (.cells #[.int .i64 a, .int .i64 b, .int .i64 c] 35 (0, 0)) := (hb1.block _ (by simp)).trans (heapAt_new w _)
      have hl1 := blk_lt hx1
      have hsz0 := hbel1.size
      go_wp2_with (go_at_call 46; refine (in_any _ _ _ _).mono ?_; rintro e w1 ⟨rfl, rfl⟩)
      clear hc hm0 hb1
      go_loopg [7, 8] (most.toNat + 1) (fun k v u wr => ∃ j : Nat, j + k = most.toNat + 1 ∧ j ≤ most.toNat ∧ u = .int .i64 ((j + 1 : Nat) : Int) ∧ Hid (OwnI wr (w.heap.size + 1) v (shF a b c j)) ∧ heapAt wr w.heap.size = some (.cells #[.int .i64 a, .int .i64 b, .int .i64 c] 35 (0, 0)) ∧ Below w.heap.size w wr)
      case atStart => exact ⟨0, by omega, by omega, rfl, Lib.hid (Own.empty w1 _ _ _ _ (by omega)), by rw [heapAt_old hl1]; exact hx1, (by repeat' (first | (with_reducible exact Below.refl _ _) | (with_reducible assumption) | (with_reducible refine Below.setCell ?_ ?_ _) | (with_reducible refine Below.alloc ?_ ?_ _) | (with_reducible refine Below.drew ?_) | (with_reducible refine below_drewN ?_ _) | (with_reducible refine Below.trans ?_ (Below.mono (by with_reducible assumption) ?_)) | go_size | (simp at *; omega)))⟩
      case round =>
        obtain ⟨j, hjk, hjm, rfl, HO, hx, hbel⟩ := hrel
        obtain ⟨p0, p1, p2, p3, p4, p5, p6⟩ := blk3 hx
        have hsz := hbel.size
        have hlen := sh_len a b c j
        by_cases hlt : ((j + 1 : Nat) : Int) ≤ most
        · have hj1 : j + 1 ≤ most.toNat := by omega
          have hyb : 1 ≤ ((j + 1 : Nat) : Int) ∧ ((j + 1 : Nat) : Int) ≤ 10000 := by omega
          have hys : ((j + 1 : Nat) : Int) ≤ 300 := by omega
          rcases hrp : rpR a b c ((j + 1 : Nat) : Int) with ⟨px, py, ok⟩
          have HS : Hid (shF a b c (j + 1) = shF a b c j ++ (if ok = true then [((j + 1 : Nat) : Int)] else [])) := Lib.hid (shF_step (by rw [hrp, okOf_is]))
          have RB := Lib.hid (by have h := sRepresentBy_any a b c ((j + 1 : Nat) : Int); rw [rep_is HV.out HD.out hyb hrp] at h; exact h)
          generalize hy : ((j + 1 : Nat) : Int) = y at *
          have HY := Lib.hid hy
          clear hy hrp
          cases ok
          · go_wp2_with fail; refine (RB.out _).mono ?_; rintro e w1 ⟨rfl, hb1⟩; obtain ⟨hc1, hf1, -, hB1⟩ := bcell hb1; have hz1 := hb1.size; (try simp at hz1); (try have hk1_0 : w.heap.size < w1.heap.size := by omega); (try have hk1_1 : w.heap.size + 1 < w1.heap.size := by omega); (try have hk1_2 : w.heap.size + 1 + 1 < w1.heap.size := by omega); (try have hk1_3 : wr.heap.size < w1.heap.size := by omega); (try have hk1_4 : wr.heap.size + 1 < w1.heap.size := by omega)
            have HO1 := Lib.hid (HO.out.below hb1)
            have hbel1 : Below w.heap.size w w1 := (by repeat' (first | (with_reducible exact Below.refl _ _) | (with_reducible assumption) | (with_reducible refine Below.setCell ?_ ?_ _) | (with_reducible refine Below.alloc ?_ ?_ _) | (with_reducible refine Below.drew ?_) | (with_reducible refine below_drewN ?_ _) | (with_reducible refine Below.trans ?_ (Below.mono (by with_reducible assumption) ?_)) | go_size | (simp at *; omega)))
            have hx1 : heapAt w1 w.heap.size = some (.cells #[.int .i64 a, .int .i64 b, .int .i64 c] 35 (0, 0)) := (hb1.block _ p0).trans hx
            clear hb1 hc1 hf1 hB1
            go_wp2_with fail
            go_roundg (gk - 1)
            case measure => omega
            case rel => exact ⟨j + 1, by omega, by omega, by rw [← HY.out]; go_num, Lib.hid (by rw [HS.out]; simpa using HO1.out), hx1, hbel1⟩
          · go_wp2_with fail; refine (RB.out _).mono ?_; rintro e w1 ⟨rfl, hb1⟩; obtain ⟨hc1, hf1, -, hB1⟩ := bcell hb1; have hz1 := hb1.size; (try simp at hz1); (try have hk1_0 : w.heap.size < w1.heap.size := by omega); (try have hk1_1 : w.heap.size + 1 < w1.heap.size := by omega); (try have hk1_2 : w.heap.size + 1 + 1 < w1.heap.size := by omega); (try have hk1_3 : wr.heap.size < w1.heap.size := by omega); (try have hk1_4 : wr.heap.size + 1 < w1.heap.size := by omega)
            have HO1 := Lib.hid (HO.out.below hb1)
            have hbel1 : Below w.heap.size w w1 := (by repeat' (first | (with_reducible exact Below.refl _ _) | (with_reducible assumption) | (with_reducible refine Below.setCell ?_ ?_ _) | (with_reducible refine Below.alloc ?_ ?_ _) | (with_reducible refine Below.drew ?_) | (with_reducible refine below_drewN ?_ _) | (with_reducible refine Below.trans ?_ (Below.mono (by with_reducible assumption) ?_)) | go_size | (simp at *; omega)))
            have hx1 : heapAt w1 w.heap.size = some (.cells #[.int .i64 a, .int .i64 b, .int .i64 c] 35 (0, 0)) := (hb1.block _ p0).trans hx
            clear hb1 hc1 hf1 hB1
            have hsz1 := hbel1.size
            have hlt1 := blk_lt hx1
            obtain ⟨L, hL⟩ : ∃ L, shF a b c j = L := ⟨_, rfl⟩
            rw [hL] at HO1 hlen
            have HL := Lib.hid hL
            clear hL HO
            obtain ⟨hi, hz0', hz1, hz2⟩ := HI0.out
            go_wp2_with (at_builtin; refine wpList_append_own _ rfl _ _ 39 rfl (w.heap.size + 1) 2 i0' (.int .i64 0) 1 8 Try.underlying39 hi hz0' hz1 hz2 rfl (by decide) _ _ _ rfl (World.ownsRow.alloc HO1.out _) ⟨w1.heap.size, 0, none⟩ 1 1 [.int .i64 y] rfl rfl ?c1 ?c2 ?c3 ?c4 ?c5 ?_)
            case c1 => exact newcs _ _ _ _ rfl
            case c2 => exact one_cell _
            case c3 => unfold maxLen; omega
            case c4 => omega
            case c5 => simp; omega
            intro v' w3 hown' hgrow hnn
            have HN := Lib.hid (appI (f := y) hown')
            have hx3 : heapAt w3 w.heap.size = some (.cells #[.int .i64 a, .int .i64 b, .int .i64 c] 35 (0, 0)) := by rw [grown_atL hgrow (neL HO1.out (.inl (by omega))) (by simp; omega), heapAt_old (by omega)]; exact hx1
            have hb3 : Below w.heap.size w w3 := Below.grown (Below.alloc hbel1 (by omega) _) hgrow (by simp; omega) (fun k hk => by have := (HO1.out.lt k hk).1; omega)
            clear hown' hgrow hnn hi hz0' hz1 hz2
            go_wp2
            go_roundg (gk - 1)
            case measure => omega
            case rel => exact ⟨j + 1, by omega, by omega, by rw [← HY.out]; go_num, Lib.hid (by rw [HS.out, HL.out]; simpa using HN.out), hx3, hb3⟩
        · have EQ : Hid (j = most.toNat) := Lib.hid (by omega)
          go_wp2_with fail
          go_ret2
          unfold RetL
          rw [HC.out, ← HA.out, ← EQ.out]
          exact ⟨_, rfl, HO.out.mono (by omega), hbel⟩
    · have HC := Lib.hid hc
      have HA : Hid (shR a b c most = []) := Lib.hid (by unfold shR; rw [hm0, if_neg hc])
      have hcb : (chS a b c true != 0) = true := by simp [hc]
      by_cases h1 : chS a b c true = 1
      · have h1b : (chS a b c true == 1) = true := by simp [h1]
        clear hc h1
        go_enter Try.func29, Try.ntmps29
        go_wp2_with fail
        refine (HX.out _).mono ?_
        rintro e w1 ⟨rfl, hb1⟩
        have hbel1 : Below w.heap.size w w1 := (by repeat' (first | (with_reducible exact Below.refl _ _) | (with_reducible assumption) | (with_reducible refine Below.setCell ?_ ?_ _) | (with_reducible refine Below.alloc ?_ ?_ _) | (with_reducible refine Below.drew ?_) | (with_reducible refine below_drewN ?_ _) | (with_reducible refine Below.trans ?_ (Below.mono (by with_reducible assumption) ?_)) | go_size | (simp at *; omega)))
        go_wp2_with (go_at_call 46; refine (in_any _ _ _ _).mono ?_; rintro e w1 ⟨rfl, rfl⟩)
        go_ret2
        unfold RetL
        rw [HA.out]
        exact ⟨_, rfl, Own.nil _ _ _ _ _, hbel1⟩
      · have h1b : (chS a b c true == 1) = false := by simp [h1]
        clear hc h1
        go_enter Try.func29, Try.ntmps29
        go_wp2_with fail
        refine (HX.out _).mono ?_
        rintro e w1 ⟨rfl, hb1⟩
        have hbel1 : Below w.heap.size w w1 := (by repeat' (first | (with_reducible exact Below.refl _ _) | (with_reducible assumption) | (with_reducible refine Below.setCell ?_ ?_ _) | (with_reducible refine Below.alloc ?_ ?_ _) | (with_reducible refine Below.drew ?_) | (with_reducible refine below_drewN ?_ _) | (with_reducible refine Below.trans ?_ (Below.mono (by with_reducible assumption) ?_)) | go_size | (simp at *; omega)))
        go_wp2_with (go_at_call 46; refine (in_any _ _ _ _).mono ?_; rintro e w1 ⟨rfl, rfl⟩)
        go_ret2
        unfold RetL
        rw [HA.out]
        exact ⟨_, rfl, Own.nil _ _ _ _ _, hbel1⟩
theorem walk_FnExactShownBy (a b c : Int) (wa : (Lit.int .i64 a).wf = true) (wb : (Lit.int .i64 b).wf = true) (wc : (Lit.int .i64 c).wf = true) (most : Int) (wmost : (Lit.int .i64 most).wf = true) (w : World) :
    Calls Try.prog 8 #[.agg #[.int .i64 a, .int .i64 b, .int .i64 c], .int .i64 most] w fun e' w' => e' = .returned (.bool true) ∧ Below w.heap.size w w' := by
  have hl := shR_len a b c most
  go_enter Try.func8, Try.ntmps8
  go_wp2_with fail
  refine (toForm_any _ _ _ _).mono ?_
  rintro e w1 ⟨rfl, b1⟩
  have F1 : Hid (heapAt w1 w.heap.size = some (.cells #[.int .i64 a, .int .i64 b, .int .i64 c] 33 (0, 0))) := Lib.hid ((b1.block w.heap.size (by simp)).trans (heapAt_new w _))
  have B1 := Lib.hid b1
  clear b1
  try clear p0 p1 p2 p3 p4 p5 p6
  go_wp2_with fail
  refine (sShownBy_any _ _ _ _ _).mono ?_
  intro e w2 hr
  unfold RetL at hr
  obtain ⟨v0, rfl, o2, b2⟩ := hr
  have O2 := Lib.hid o2
  clear o2
  have F2 : Hid (heapAt w2 w.heap.size = some (.cells #[.int .i64 a, .int .i64 b, .int .i64 c] 33 (0, 0))) := Lib.hid ((b2.block w.heap.size (blk_lt F1.out)).trans F1.out)
  have B2 := Lib.hid b2
  clear b2
  obtain ⟨p0, p1, p2, p3, p4, p5, p6⟩ := blk3 F2.out
  go_wp2_with fail
  refine (toForm_any _ _ _ _).mono ?_
  rintro e w3 ⟨rfl, b3⟩
  have F3 : Hid (heapAt w3 w.heap.size = some (.cells #[.int .i64 a, .int .i64 b, .int .i64 c] 33 (0, 0))) := Lib.hid ((b3.block w.heap.size (blk_lt F2.out)).trans F2.out)
  have B3 := Lib.hid b3
  clear b3
  try clear p0 p1 p2 p3 p4 p5 p6
  go_wp2_with fail
  refine (iShownBy_any _ _ _ _ _).mono ?_
  intro e w4 hr
  unfold RetL at hr
  obtain ⟨v1, rfl, o4, b4⟩ := hr
  have O4 := Lib.hid o4
  clear o4
  have F4 : Hid (heapAt w4 w.heap.size = some (.cells #[.int .i64 a, .int .i64 b, .int .i64 c] 33 (0, 0))) := Lib.hid ((b4.block w.heap.size (blk_lt F3.out)).trans F3.out)
  have B4 := Lib.hid b4
  clear b4
  go_wp2_with fail
  refine (eqInt64S_same v1 v0 (shR a b c most) _ _ _ O4.out ((O2.out.below B3.out).below B4.out) hl).mono ?_
  rintro e w5 ⟨rfl, b5⟩
  have F5 : Hid (heapAt w5 w.heap.size = some (.cells #[.int .i64 a, .int .i64 b, .int .i64 c] 33 (0, 0))) := Lib.hid ((b5.block w.heap.size (blk_lt F4.out)).trans F4.out)
  have B5 := Lib.hid b5
  clear b5
  go_wp2_with fail
  refine (markInt64S_any v1 (shR a b c most) w3.heap.size _ (O4.out.below B5.out) hl).mono ?_
  rintro e w6 ⟨rfl, o6, g6⟩
  have O6 := Lib.hid o6
  have G6 := Lib.hid g6
  clear o6 g6
  have S1 := B1.out.size
  have S2 := B2.out.size
  have S3 := B3.out.size
  have S4 := B4.out.size
  have S5 := B5.out.size
  have S6 := G6.out.size
  have L5 := blk_lt F5.out
  have F6 : Hid (heapAt w6 w.heap.size = some (.cells #[.int .i64 a, .int .i64 b, .int .i64 c] 33 (0, 0))) := Lib.hid ((grown_atL G6.out (neL (O4.out.below B5.out) (.inl (by have := blk_lt F3.out; omega))) L5).trans F5.out)
  go_wp2_with fail
  refine (heldInt64S_any v1 (shR a b c most) w3.heap.size _ O6.out hl).mono ?_
  rintro e w_ ⟨rfl, rfl⟩
  obtain ⟨p0, p1, p2, p3, p4, p5, p6⟩ := blk3 F6.out
  go_wp2_with fail
  refine (toForm_any _ _ _ _).mono ?_
  rintro e w7 ⟨rfl, b7⟩
  have F7 : Hid (heapAt w7 w.heap.size = some (.cells #[.int .i64 a, .int .i64 b, .int .i64 c] 33 (0, 0))) := Lib.hid ((b7.block w.heap.size (blk_lt F6.out)).trans F6.out)
  have B7 := Lib.hid b7
  clear b7
  try clear p0 p1 p2 p3 p4 p5 p6
  go_wp2_with fail
  refine (iShownBy_any _ _ _ _ _).mono ?_
  intro e w8 hr
  unfold RetL at hr
  obtain ⟨v2, rfl, o8, b8⟩ := hr
  have O8 := Lib.hid o8
  clear o8
  have F8 : Hid (heapAt w8 w.heap.size = some (.cells #[.int .i64 a, .int .i64 b, .int .i64 c] 33 (0, 0))) := Lib.hid ((b8.block w.heap.size (blk_lt F7.out)).trans F7.out)
  have B8 := Lib.hid b8
  clear b8
  go_wp2_with fail
  refine (eqInt64S_same v2 v0 (shR a b c most) _ _ _ O8.out (((asideL (((O2.out.below B3.out).below B4.out).below B5.out) O2.out (by omega) (O4.out.below B5.out) G6.out).below B7.out).below B8.out) hl).mono ?_
  rintro e w9 ⟨rfl, b9⟩
  have F9 : Hid (heapAt w9 w.heap.size = some (.cells #[.int .i64 a, .int .i64 b, .int .i64 c] 33 (0, 0))) := Lib.hid ((b9.block w.heap.size (blk_lt F8.out)).trans F8.out)
  have B9 := Lib.hid b9
  clear b9
  go_wp2_with fail
  refine (heldInt64S_any v1 (shR a b c most) w3.heap.size _ (((O6.out.below B7.out).below B8.out).below B9.out) hl).mono ?_
  rintro e w_ ⟨rfl, rfl⟩
  go_wp2_with fail
  go_ret
  refine ⟨rfl, ?_⟩
  have S7 := B7.out.size
  have S8 := B8.out.size
  have S9 := B9.out.size
  have hs0 : (w.alloc (.cells #[.int .i64 a, .int .i64 b, .int .i64 c] 33)).heap.size = w.heap.size + 1 := World.size_alloc _ _
  have c0 := ((Below.refl w.heap.size w).alloc (Nat.le_refl _) (.cells #[.int .i64 a, .int .i64 b, .int .i64 c] 33))
  have c1 := c0.trans (B1.out.mono (by omega))
  have c2 := c1.trans (B2.out.mono (by omega))
  have c3 := c2.trans (B3.out.mono (by omega))
  have c4 := c3.trans (B4.out.mono (by omega))
  have c5 := c4.trans (B5.out.mono (by omega))
  have c6 := markedL c5 (B := w3.heap.size) (by omega) (by omega) (O4.out.below B5.out) G6.out
  have c7 := c6.trans (B7.out.mono (by omega))
  have c8 := c7.trans (B8.out.mono (by omega))
  have c9 := c8.trans (B9.out.mono (by omega))
  exact c9
end Go.Proofs.Ytodbmnbahldabaa
