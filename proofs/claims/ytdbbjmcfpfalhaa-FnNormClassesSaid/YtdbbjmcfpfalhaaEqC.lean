/- Equations: whether there are numbers that solve one modulo some number. -/
import Derived.Test.YtdbbjmcfpfalhaaEqA
import Derived.Test.YtdbbjmcfpfalhaaMem
namespace Go.Proofs.Ytdbbjmcfpfalhaa
open Go.ChangeShapes Go.WideShapes Go.ChangeAt Go.RowKit
set_option linter.unusedVariables false
set_option maxHeartbeats 1000000
/-- Which remainders are squares. -/
def mtL (m : Nat) : Nat → List Bool
  | 0 => List.replicate m false
  | i + 1 => (mtL m i).set (i * i % m) true
theorem mtL_len (m i : Nat) : (mtL m i).length = m := by
  induction i with
  | zero => simp [mtL]
  | succ i ih => unfold mtL; rw [List.length_set, ih]
def yR (d n : Int) (m y : Nat) : Nat := ((n + d * y * y) % m).toNat
/-- Is there none from y on? -/
def noY (d n : Int) (m : Nat) : Nat → Nat → Bool
  | 0, _ => true
  | k + 1, y => if (mtL m m).getD (yR d n m y) false = true then false else noY d n m k (y + 1)
theorem noY_no {d n : Int} {m k y : Nat} (h : (mtL m m).getD (yR d n m y) false = false) : noY d n m (k + 1) y = noY d n m k (y + 1) := by
  conv => lhs; unfold noY
  rw [h, if_neg (by simp)]
theorem noY_yes {d n : Int} {m k y : Nat} (h : (mtL m m).getD (yR d n m y) false = true) : noY d n m (k + 1) y = false := by
  unfold noY
  rw [h, if_pos rfl]
def gB (b : Bool) : List Value := [.bool b]
theorem gB_len (b : Bool) : (gB b).length = 1 := rfl
abbrev OwnB (w : World) (B : Nat) (v : Value) (L : List Bool) : Prop := Own w B 4 1 gB v L
theorem infoB : (Try.prog.info? 4).map (fun i => (i.zero, i.size, i.bytes)) = some (some (.bool false), 1, 1) := by kernel_rfl
theorem OwnB.cells {w : World} {B b n cap : Nat} {L : List Bool} (h : OwnB w B (.slice (some ⟨b, 0, none⟩) n cap) L) (hn : L.length = n) {i : Nat} (hi : i < n) : w.cell? ⟨b, i, none⟩ = some (.bool (L.getD i false)) ∧ w.frozen? ⟨b, i, none⟩ = false := by
  subst hn
  have h1 := Own.cell gB_len h i 0 hi (by omega)
  refine ⟨?_, Own.free h _⟩
  simp [gB] at h1
  rw [h1]
  simp [List.getD, hi]
theorem rows_setB (L : List Bool) : ∀ (i : Nat) (x : Bool), i < L.length → (rowsOf gB L).set i (.bool x) = rowsOf gB (L.set i x) := by
  induction L with
  | nil => intro i x h; simp at h
  | cons f L ih =>
    intro i x h
    have e : ∀ M : List Bool, ∀ f, rowsOf gB (f :: M) = .bool f :: rowsOf gB M := fun M f => by simp [rowsOf, gB]
    cases i with
    | zero => rw [List.set_cons_zero, e, e]; rfl
    | succ i => rw [List.set_cons_succ, e, e, ← ih i x (by simpa using h)]; rfl
theorem setB {w : World} {B b cap n : Nat} {L : List Bool} (h : OwnB w B (.slice (some ⟨b, 0, none⟩) n cap) L) (hn : L.length = n) {i : Nat} (hi : i < n) (x : Bool) :
    OwnB (w.setCell ⟨b, i, none⟩ (.bool x)) B (.slice (some ⟨b, 0, none⟩) n cap) (L.set i x) := by
  subst hn
  obtain ⟨h1, g1⟩ := World.ownsRow.stored h i (.bool x)
  unfold OwnB Own
  rw [List.length_set, ← rows_setB L i x hi]
  exact h1
theorem rows_rep (m : Nat) : rowsOf gB (List.replicate m false) = List.replicate m (.bool false) := by
  induction m with
  | zero => rfl
  | succ m ih =>
    rw [List.replicate_succ, List.replicate_succ, ← ih]
    simp [rowsOf, gB]
theorem ownB_made {w : World} {B b n cap : Nat} (h : w.ownsRow B 4 1 (.slice (some ⟨b, 0, none⟩) n cap) n (madeCells #[.bool false] n).toList) : OwnB w B (.slice (some ⟨b, 0, none⟩) n cap) (mtL n 0) := by
  unfold OwnB Own
  rw [mtL_len]
  have e : (madeCells #[Value.bool false] n).toList = rowsOf gB (mtL n 0) := (toList_madeCells_one _ _).trans (rows_rep n).symm
  rw [← e]
  exact h
theorem sqm {x m : Nat} : ((x : Int) * x).tmod m = ((x * x % m : Nat) : Int) := by
  rw [Int.tmod_eq_emod_of_nonneg (Int.mul_nonneg (by omega) (by omega))]
  exact_mod_cast rfl
theorem provesNone_any (d n : Int) (m : Nat) (w : World) (hd : 2 ≤ d ∧ d ≤ 1000) (hn : -1000 ≤ n ∧ n ≤ 1000) (hm : 2 ≤ m ∧ m ≤ 100) :
    Calls Try.prog 46 #[.int .i64 d, .int .i64 n, .int .i64 m] w fun e w' => e = .returned (.bool (noY d n m m 0)) ∧ Below w.heap.size w w' := by
  obtain ⟨i0', hi, hz0, hz1, hz2⟩ := info_parts infoB
  obtain ⟨R, hR⟩ : ∃ R, noY d n m m 0 = R := ⟨_, rfl⟩
  have HR := Lib.hid hR
  rw [hR]
  clear hR
  have hm1 : ¬ (m : Int) = 0 := by omega
  go_enter Try.func46, Try.ntmps46
  go_wp2_with (at_make; refine wpList_make_full _ rfl _ _ 68 rfl w.heap.size 4 i0' (.bool false) 1 Try.underlying68 hi hz0 hz1 .i64 .i64 _ _ m rfl rfl rfl rfl ?b2 ?b3 ?b4 ?_)
  case b2 => rw [hz2]; omega
  case b3 => unfold maxLen; omega
  case b4 => omega
  intro w1 hown hgrow
  have HO := Lib.hid (ownB_made hown)
  have hb1 : Below w.heap.size w w1 := Below.grown (Below.refl _ _) hgrow (Nat.le_refl _) (fun k hk => by cases hk)
  clear hown hgrow hi hz0 hz1 hz2
  go_wp2
  go_loopg [13] m (fun k u wr => ∃ i : Nat, u = .int .i64 i ∧ i + k = m ∧ Hid (OwnB wr w.heap.size (.slice (some ⟨w.heap.size, 0, none⟩) m m) (mtL m i)) ∧ Below w.heap.size w wr)
  case atStart => exact ⟨0, by go_num, by omega, HO, hb1⟩
  case round =>
    obtain ⟨i, rfl, hik, HO, hbel⟩ := hrel
    by_cases hlt : i < m
    · have hr : i * i % m < m := Nat.mod_lt _ (by omega)
      obtain ⟨x1, f1⟩ := OwnB.cells HO.out (mtL_len m i) hr
      have hq : 0 ≤ (i : Int) * (i : Int) ∧ (i : Int) * (i : Int) ≤ 10000 := by
        have := mul_b (a := (i : Int)) (b := (i : Int)) (A := 100) (B := 100) (by omega) (by omega)
        exact ⟨Int.mul_nonneg (by omega) (by omega), by omega⟩
      have e1 : ((i : Int) * (i : Int)) % (m : Int) = ((i * i % m : Nat) : Int) := by exact_mod_cast rfl
      have e2 : ((i : Int) * (i : Int)).tmod (m : Int) = ((i * i % m : Nat) : Int) := by rw [Int.tmod_eq_emod_of_nonneg hq.1]; exact e1
      have HS : Hid (OwnB (wr.setCell ⟨w.heap.size, i * i % m, none⟩ (.bool true)) w.heap.size (.slice (some ⟨w.heap.size, 0, none⟩) m m) (mtL m (i + 1))) := Lib.hid (setB HO.out (mtL_len m i) hr true)
      generalize i * i % m = r at e1 e2 hr x1 f1 HS
      have r0 : (0 : Int) ≤ (r : Int) := by omega
      have r1 : (r : Int) < (m : Int) := by omega
      go_wp2
      go_roundg (gk - 1)
      case measure => omega
      case rel => exact ⟨i + 1, by go_num, by omega, HS, (by repeat' (first | (with_reducible exact Below.refl _ _) | (with_reducible assumption) | (with_reducible refine Below.setCell ?_ ?_ _) | (with_reducible refine Below.alloc ?_ ?_ _) | (with_reducible refine Below.drew ?_) | (with_reducible refine below_drewN ?_ _) | (with_reducible refine Below.trans ?_ (Below.mono (by with_reducible assumption) ?_)) | go_size | (simp at *; omega)))⟩
    · have he : i = m := by omega
      subst he
      go_wp2
      have HB := Lib.hid hbel
      go_loopg [25] i (fun k u w_ => ∃ y : Nat, u = .int .i64 y ∧ y + k = i ∧ Hid (noY d n i k y = R) ∧ wr = w_)
      case atStart => exact ⟨0, by go_num, by omega, HR, rfl⟩
      case round =>
        obtain ⟨y, rfl, hyk, HY, rfl⟩ := hrel
        by_cases hlt : y < i
        · have hr : yR d n i y < i := by
            have h1 := Int.emod_lt_of_pos (n + d * y * y) (by omega : (0 : Int) < (i : Int))
            have h0 := Int.emod_nonneg (n + d * y * y) (by omega : (i : Int) ≠ 0)
            unfold yR
            omega
          have e1 : (n + d * (y : Int) * (y : Int)) % (i : Int) = ((yR d n i y : Nat) : Int) := by
            have h0 := Int.emod_nonneg (n + d * y * y) (by omega : (i : Int) ≠ 0)
            unfold yR
            omega
          obtain ⟨x1, f1⟩ := OwnB.cells HO.out (mtL_len i i) hr
          have hq1 := mul_b (a := d) (b := (y : Int)) (A := 1000) (B := 100) (by omega) (by omega)
          have hq2 := mul_b (a := d * (y : Int)) (b := (y : Int)) (A := 100000) (B := 100) (by omega) (by omega)
          obtain ⟨k', rfl⟩ : ∃ k', gk = k' + 1 := ⟨gk - 1, by omega⟩
          cases hb : (mtL i i).getD (yR d n i y) false
          · have HN : Hid (noY d n i k' (y + 1) = R) := Lib.hid ((noY_no hb).symm.trans HY.out)
            rw [hb] at x1
            clear hb
            generalize yR d n i y = r at e1 hr x1
            have r0 : (0 : Int) ≤ (r : Int) := by omega
            have r1 : (r : Int) < (i : Int) := by omega
            go_wp2_with (go_at_call 70; refine (floorMod_any _ _ _ (by omega) (by omega)).mono ?_; rintro e w1 ⟨rfl, rfl⟩)
            go_roundg k'
            case measure => omega
            case rel => exact ⟨y + 1, by go_num, by omega, HN, rfl⟩
          · have HN : Hid (R = false) := Lib.hid (HY.out.symm.trans (noY_yes hb))
            rw [hb] at x1
            clear hb
            generalize yR d n i y = r at e1 hr x1
            have r0 : (0 : Int) ≤ (r : Int) := by omega
            have r1 : (r : Int) < (i : Int) := by omega
            go_wp2_with (go_at_call 70; refine (floorMod_any _ _ _ (by omega) (by omega)).mono ?_; rintro e w1 ⟨rfl, rfl⟩)
            go_ret
            exact ⟨ret_bool HN.out.symm, HB.out⟩
        · have hk : gk = 0 := by omega
          subst hk
          have HN : Hid (R = true) := Lib.hid (by rw [← HY.out]; rfl)
          go_wp2
          go_ret
          exact ⟨ret_bool HN.out.symm, HB.out⟩
theorem l10Open_any (d n : Int) (m : Nat) (w : World) (hd : 2 ≤ d ∧ d ≤ 1000) (hn : -1000 ≤ n ∧ n ≤ 1000) (hm : 2 ≤ m ∧ m ≤ 100) :
    Calls Try.prog 45 #[.int .i64 d, .int .i64 n, .int .i64 m] w fun e w' => e = .returned (.bool (!noY d n m m 0)) ∧ Below w.heap.size w w' := by
  obtain ⟨i0', hi, hz0, hz1, hz2⟩ := info_parts infoB
  obtain ⟨R, hR⟩ : ∃ R, noY d n m m 0 = R := ⟨_, rfl⟩
  have HR := Lib.hid hR
  rw [hR]
  clear hR
  have hm1 : ¬ (m : Int) = 0 := by omega
  go_enter Try.func45, Try.ntmps45
  go_wp2_with (at_make; refine wpList_make_full _ rfl _ _ 68 rfl w.heap.size 4 i0' (.bool false) 1 Try.underlying68 hi hz0 hz1 .i64 .i64 _ _ m rfl rfl rfl rfl ?b2 ?b3 ?b4 ?_)
  case b2 => rw [hz2]; omega
  case b3 => unfold maxLen; omega
  case b4 => omega
  intro w1 hown hgrow
  have HO := Lib.hid (ownB_made hown)
  have hb1 : Below w.heap.size w w1 := Below.grown (Below.refl _ _) hgrow (Nat.le_refl _) (fun k hk => by cases hk)
  clear hown hgrow hi hz0 hz1 hz2
  go_wp2
  go_loopg [8] m (fun k u wr => ∃ i : Nat, u = .int .i64 i ∧ i + k = m ∧ Hid (OwnB wr w.heap.size (.slice (some ⟨w.heap.size, 0, none⟩) m m) (mtL m i)) ∧ Below w.heap.size w wr)
  case atStart => exact ⟨0, by go_num, by omega, HO, hb1⟩
  case round =>
    obtain ⟨i, rfl, hik, HO, hbel⟩ := hrel
    by_cases hlt : i < m
    · have hr : i * i % m < m := Nat.mod_lt _ (by omega)
      obtain ⟨x1, f1⟩ := OwnB.cells HO.out (mtL_len m i) hr
      have hq : 0 ≤ (i : Int) * (i : Int) ∧ (i : Int) * (i : Int) ≤ 10000 := by
        have := mul_b (a := (i : Int)) (b := (i : Int)) (A := 100) (B := 100) (by omega) (by omega)
        exact ⟨Int.mul_nonneg (by omega) (by omega), by omega⟩
      have e1 : ((i : Int) * (i : Int)) % (m : Int) = ((i * i % m : Nat) : Int) := by exact_mod_cast rfl
      have e2 : ((i : Int) * (i : Int)).tmod (m : Int) = ((i * i % m : Nat) : Int) := by rw [Int.tmod_eq_emod_of_nonneg hq.1]; exact e1
      have HS : Hid (OwnB (wr.setCell ⟨w.heap.size, i * i % m, none⟩ (.bool true)) w.heap.size (.slice (some ⟨w.heap.size, 0, none⟩) m m) (mtL m (i + 1))) := Lib.hid (setB HO.out (mtL_len m i) hr true)
      generalize i * i % m = r at e1 e2 hr x1 f1 HS
      have r0 : (0 : Int) ≤ (r : Int) := by omega
      have r1 : (r : Int) < (m : Int) := by omega
      go_wp2
      go_roundg (gk - 1)
      case measure => omega
      case rel => exact ⟨i + 1, by go_num, by omega, HS, (by repeat' (first | (with_reducible exact Below.refl _ _) | (with_reducible assumption) | (with_reducible refine Below.setCell ?_ ?_ _) | (with_reducible refine Below.alloc ?_ ?_ _) | (with_reducible refine Below.drew ?_) | (with_reducible refine below_drewN ?_ _) | (with_reducible refine Below.trans ?_ (Below.mono (by with_reducible assumption) ?_)) | go_size | (simp at *; omega)))⟩
    · have he : i = m := by omega
      subst he
      go_wp2
      have HB := Lib.hid hbel
      go_loopg [9] i (fun k u w_ => ∃ y : Nat, u = .int .i64 y ∧ y + k = i ∧ Hid (noY d n i k y = R) ∧ wr = w_)
      case atStart => exact ⟨0, by go_num, by omega, HR, rfl⟩
      case round =>
        obtain ⟨y, rfl, hyk, HY, rfl⟩ := hrel
        by_cases hlt : y < i
        · have hr : yR d n i y < i := by
            have h1 := Int.emod_lt_of_pos (n + d * y * y) (by omega : (0 : Int) < (i : Int))
            have h0 := Int.emod_nonneg (n + d * y * y) (by omega : (i : Int) ≠ 0)
            unfold yR
            omega
          have e1 : (d * (y : Int) * (y : Int) + n) % (i : Int) = ((yR d n i y : Nat) : Int) := by
            rw [Int.add_comm]
            have h0 := Int.emod_nonneg (n + d * y * y) (by omega : (i : Int) ≠ 0)
            unfold yR
            omega
          obtain ⟨x1, f1⟩ := OwnB.cells HO.out (mtL_len i i) hr
          have hq1 := mul_b (a := d) (b := (y : Int)) (A := 1000) (B := 100) (by omega) (by omega)
          have hq2 := mul_b (a := d * (y : Int)) (b := (y : Int)) (A := 100000) (B := 100) (by omega) (by omega)
          obtain ⟨k', rfl⟩ : ∃ k', gk = k' + 1 := ⟨gk - 1, by omega⟩
          cases hb : (mtL i i).getD (yR d n i y) false
          · have HN : Hid (noY d n i k' (y + 1) = R) := Lib.hid ((noY_no hb).symm.trans HY.out)
            rw [hb] at x1
            clear hb
            generalize yR d n i y = r at e1 hr x1
            have r0 : (0 : Int) ≤ (r : Int) := by omega
            have r1 : (r : Int) < (i : Int) := by omega
            go_wp2_with (go_at_call 69; refine (l02Mod_any _ _ _ (by omega) (by omega)).mono ?_; rintro e w1 ⟨rfl, rfl⟩)
            go_roundg k'
            case measure => omega
            case rel => exact ⟨y + 1, by go_num, by omega, HN, rfl⟩
          · have HN : Hid (R = false) := Lib.hid (HY.out.symm.trans (noY_yes hb))
            rw [hb] at x1
            clear hb
            generalize yR d n i y = r at e1 hr x1
            have r0 : (0 : Int) ≤ (r : Int) := by omega
            have r1 : (r : Int) < (i : Int) := by omega
            go_wp2_with (go_at_call 69; refine (l02Mod_any _ _ _ (by omega) (by omega)).mono ?_; rintro e w1 ⟨rfl, rfl⟩)
            go_ret
            exact ⟨ret_bool (by rw [HN.out]; rfl), HB.out⟩
        · have hk : gk = 0 := by omega
          subst hk
          have HN : Hid (R = true) := Lib.hid (by rw [← HY.out]; rfl)
          go_wp2
          go_ret
          exact ⟨ret_bool (by rw [HN.out]; rfl), HB.out⟩
end Go.Proofs.Ytdbbjmcfpfalhaa
