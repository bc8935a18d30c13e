/- Some numbers as words, joined: the program's decimals. -/
import Derived.Test.YtodbmnbahldabaaDoorDec
import Derived.Test.YtodbmnbahldabaaDoorTabK
import Derived.Lib.Join
namespace Go.Proofs.YtodbmnbahldabaaDoor
open Go.ChangeShapes Go.WideShapes Go.ChangeAt Go.RowKit
set_option linter.unusedVariables false
set_option maxHeartbeats 8000000
set_option maxRecDepth 20000
def itB (n : Int) : ByteArray := ⟨(Lib.itoa n).toArray⟩
theorem itB_size {n : Int} (hn : -9223372036854775808 ≤ n ∧ n ≤ 9223372036854775807) : (itB n).size ≤ 20 := by
  have h := dg_len 19 n.natAbs (by omega)
  show (Lib.itoa n).toArray.size ≤ 20
  rw [itoa_of]
  split
  · simp
  · split
    · simp; omega
    · simp; omega
def gT (s : ByteArray) : List Value := [.string s]
theorem gT_len (s : ByteArray) : (gT s).length = 1 := rfl
abbrev OwnT (w : World) (B : Nat) (v : Value) (L : List ByteArray) : Prop := Own w B 9 1 gT v L
theorem infoT : (Tryd.prog.info? 9).map (fun i => (i.zero, i.size, i.bytes)) = some (some (.string ⟨#[]⟩), 1, 16) := by kernel_rfl
theorem OwnT.cells {w : World} {B b n cap : Nat} {L : List ByteArray} (h : OwnT w B (.slice (some ⟨b, 0, none⟩) n cap) L) (hn : L.length = n) {i : Nat} (hi : i < n) : w.cell? ⟨b, i, none⟩ = some (.string (L.getD i ⟨#[]⟩)) ∧ w.frozen? ⟨b, i, none⟩ = false := by
  subst hn
  have h1 := Own.cell gT_len h i 0 hi (by omega)
  refine ⟨?_, Own.free h _⟩
  simp [gT] at h1
  rw [h1]
  simp [List.getD, hi]
theorem rows_setT (L : List ByteArray) : ∀ (i : Nat) (x : ByteArray), i < L.length → (rowsOf gT L).set i (.string x) = rowsOf gT (L.set i x) := by
  induction L with
  | nil => intro i x h; simp at h
  | cons f L ih =>
    intro i x h
    have e : ∀ M : List ByteArray, ∀ f, rowsOf gT (f :: M) = .string f :: rowsOf gT M := fun M f => by simp [rowsOf, gT]
    cases i with
    | zero => rw [List.set_cons_zero, e, e]; rfl
    | succ i => rw [List.set_cons_succ, e, e, ← ih i x (by simpa using h)]; rfl
theorem setT {w : World} {B b cap n : Nat} {L : List ByteArray} (h : OwnT w B (.slice (some ⟨b, 0, none⟩) n cap) L) (hn : L.length = n) {i : Nat} (hi : i < n) (x : ByteArray) :
    OwnT (w.setCell ⟨b, i, none⟩ (.string x)) B (.slice (some ⟨b, 0, none⟩) n cap) (L.set i x) := by
  subst hn
  obtain ⟨h1, g1⟩ := World.ownsRow.stored h i (.string x)
  unfold OwnT Own
  rw [List.length_set, ← rows_setT L i x hi]
  exact h1
theorem rows_repT (m : Nat) : rowsOf gT (List.replicate m ⟨#[]⟩) = List.replicate m (.string ⟨#[]⟩) := by
  induction m with
  | zero => rfl
  | succ m ih =>
    rw [List.replicate_succ, List.replicate_succ, ← ih]
    simp [rowsOf, gT]
theorem ownT_made {w : World} {B b n cap : Nat} (h : w.ownsRow B 9 1 (.slice (some ⟨b, 0, none⟩) n cap) n (madeCells #[.string ⟨#[]⟩] n).toList) : OwnT w B (.slice (some ⟨b, 0, none⟩) n cap) (List.replicate n ⟨#[]⟩) := by
  unfold OwnT Own
  rw [List.length_replicate]
  have e : (madeCells #[Value.string ⟨#[]⟩] n).toList = rowsOf gT (List.replicate n ⟨#[]⟩) := (toList_madeCells_one _ _).trans (rows_repT n).symm
  rw [← e]
  exact h
theorem getD_atT {α : Type} (L : List α) (z : α) {i : Nat} (h : i < L.length) : L.getD i z = L[i] := by simp [List.getD, h]
theorem getD_set {α : Type} (L : List α) (i j : Nat) (x z : α) (hi : i < L.length) : (L.set i x).getD j z = if j = i then x else L.getD j z := by
  by_cases h : j = i
  · subst h
    simp [List.getD, hi]
  · rw [if_neg h]
    simp [List.getD, List.getElem?_set_ne (Ne.symm h)]
/-- The words of some numbers, with a comma and a blank between. -/
def dcB (L : List Int) : ByteArray := ⟨(Lib.join (L.map Lib.itoa) [44, 32]).toArray⟩
theorem join_len : ∀ (M : List (List UInt8)), (∀ x ∈ M, x.length ≤ 20) → (Lib.joinTail [44, 32] M).length ≤ 22 * M.length := by
  intro M
  induction M with
  | nil => intro _; simp [Lib.joinTail]
  | cons x M ih =>
    intro h
    have h1 := h x List.mem_cons_self
    have h2 := ih (fun y hy => h y (List.mem_cons_of_mem _ hy))
    have e : Lib.joinTail [44, 32] (x :: M) = ([44, 32] ++ x) ++ Lib.joinTail [44, 32] M := rfl
    rw [e]
    simp only [List.length_append, List.length_cons, List.length_nil]
    omega
theorem join_len' (M : List (List UInt8)) (h : ∀ x ∈ M, x.length ≤ 20) : (Lib.join M [44, 32]).length ≤ 22 * M.length := by
  cases M with
  | nil => simp [Lib.join_nil]
  | cons x M =>
    rw [Lib.join_cons, List.length_append, List.length_cons]
    have h1 := h x List.mem_cons_self
    have h2 := join_len M (fun y hy => h y (List.mem_cons_of_mem _ hy))
    omega
theorem itoa_le {n : Int} (hn : -9223372036854775808 ≤ n ∧ n ≤ 9223372036854775807) : (Lib.itoa n).length ≤ 20 := by
  have := itB_size hn
  simpa [itB, ByteArray.size] using this
theorem dcB_size {L : List Int} (hn : ∀ n ∈ L, -9223372036854775808 ≤ n ∧ n ≤ 9223372036854775807) : (dcB L).size ≤ 22 * L.length := by
  have := join_len' (L.map Lib.itoa) (fun x hx => by obtain ⟨n, h1, rfl⟩ := List.mem_map.1 hx; exact itoa_le (hn n h1))
  rw [List.length_map] at this
  simpa [dcB, ByteArray.size] using this
theorem map_data (L : List Int) : (L.map itB).map (·.data.toList) = L.map Lib.itoa := by
  rw [List.map_map]
  apply List.map_congr_left
  intro n _
  simp [itB]
theorem decimals_any (L : List Int) (hL : L.length ≤ 1000) (hL1 : 1 ≤ L.length) (hn : ∀ n ∈ L, -9223372036854775808 ≤ n ∧ n ≤ 9223372036854775807) (b cap : Nat) (w : World) (ht : Tab w) (hb : b < w.heap.size)
    (hc : ∀ j, (h : j < L.length) → w.cell? ⟨b, j, none⟩ = some (.int .i64 L[j])) :
    Calls Tryd.prog 25 #[.slice (some ⟨b, 0, none⟩) L.length cap, .string ⟨#[44, 32]⟩] w fun e w' => e = .returned (.string (dcB L)) ∧ Below w.heap.size w w' := by
  have HT := Lib.hid ht
  have HC := Lib.hid hc
  have HN := Lib.hid hn
  clear ht hc hn
  obtain ⟨i0', hi, hz0, hz1, hz2⟩ := info_parts infoT
  go_enter Tryd.func25, Tryd.ntmps25
  go_wp2_with (at_make; refine wpList_make_full _ rfl _ _ 64 rfl w.heap.size 9 i0' (.string ⟨#[]⟩) 1 Tryd.underlying64 hi hz0 hz1 .i64 .i64 _ _ L.length rfl rfl rfl rfl ?b2 ?b3 ?b4 ?_)
  case b2 => rw [hz2]; omega
  case b3 => unfold maxLen; omega
  case b4 => omega
  intro w1 hown hgrow
  have HO := Lib.hid (ownT_made hown)
  have hb1 : Below w.heap.size w w1 := Below.grown (Below.refl _ _) hgrow (Nat.le_refl _) (fun k hk => by cases hk)
  have hsb : w.heap.size < w1.heap.size := ((hown.lt w.heap.size rfl)).2
  clear hown hgrow hi hz0 hz1 hz2
  go_wp2
  go_loopg [13] L.length (fun k u wr => ∃ (i : Nat) (S : List ByteArray), i + k = L.length ∧ u = .int .i64 i ∧ S.length = L.length ∧ Hid (OwnT wr w.heap.size (.slice (some ⟨w.heap.size, 0, none⟩) L.length L.length) S) ∧ Hid (∀ j, j < i → S.getD j ⟨#[]⟩ = itB (L.getD j 0)) ∧ w.heap.size < wr.heap.size ∧ Below w.heap.size w wr)
  case atStart => exact ⟨0, _, by omega, rfl, by simp, HO, Lib.hid (fun j hj => by omega), hsb, hb1⟩
  case round =>
    obtain ⟨i, S, hik, rfl, hSl, HO, HS, hsz, hbel⟩ := hrel
    by_cases hlt : i < L.length
    · have x1 : wr.cell? ⟨b, i, none⟩ = some (.int .i64 L[i]) := (World.cell?_of_block (w := w) (a := ⟨b, i, none⟩) (hbel.block b hb)).trans (HC.out i hlt)
      have DX := Lib.hid (decimal_any L[i] (HN.out _ (List.getElem_mem hlt)))
      have HTr := Lib.hid (HT.out.below hbel)
      have HE : Hid (∀ j, j < i + 1 → (S.set i (itB L[i])).getD j ⟨#[]⟩ = itB (L.getD j 0)) := Lib.hid (fun j hj => by
        rw [getD_set _ _ _ _ _ (by omega)]
        split
        · rename_i h; subst h; rw [getD_atT _ _ hlt]
        · exact HS.out j (by omega))
      have hbit : (⟨(Lib.itoa L[i]).toArray⟩ : ByteArray) = itB L[i] := rfl
      rw [hbit] at DX
      generalize itB L[i] = B1 at *
      generalize L[i] = n1 at *
      have i0 : (0 : Int) ≤ (i : Int) := by omega
      have i1 : (i : Int) < (L.length : Int) := by omega
      go_wp2_with fail
      refine (DX.out _ HTr.out).mono ?_
      rintro e w2 ⟨rfl, hb2⟩
      have HO2 := Lib.hid (HO.out.below hb2)
      have hbel2 : Below w.heap.size w w2 := hbel.trans (hb2.mono (by omega))
      have hsz2 : w.heap.size < w2.heap.size := by have := hb2.size; omega
      obtain ⟨s1, s2⟩ := OwnT.cells HO2.out hSl hlt
      have HO3 := Lib.hid (setT HO2.out hSl hlt B1)
      clear hb2 x1
      go_wp2_with fail
      go_roundg (gk - 1)
      case measure => omega
      case rel => exact ⟨i + 1, _, by omega, by go_num, by rw [List.length_set]; exact hSl, HO3, HE, by simp; omega, (by repeat' (first | (with_reducible exact Below.refl _ _) | (with_reducible assumption) | (with_reducible refine Below.setCell ?_ ?_ _) | (with_reducible refine Below.alloc ?_ ?_ _) | (with_reducible refine Below.drew ?_) | (with_reducible refine below_drewN ?_ _) | (with_reducible refine Below.trans ?_ (Below.mono (by with_reducible assumption) ?_)) | go_size | (simp at *; omega)))⟩
    · have EQ : i = L.length := by omega
      subst EQ
      have hmap : S = L.map itB := by
        apply List.ext_getElem (by rw [List.length_map]; exact hSl)
        intro j h1 h2
        have := HS.out j (by omega)
        rw [getD_atT _ _ h1, getD_atT _ _ (by omega)] at this
        rw [this, List.getElem_map]
      have J := Tryd.strings_Join w.heap.size 0 L.length S ⟨#[44, 32]⟩ wr (by
        intro j x hx
        obtain ⟨hj, e⟩ := List.getElem?_eq_some_iff.1 hx
        have := (OwnT.cells HO.out hSl (i := j) (by omega)).1
        rw [getD_atT _ _ hj, e] at this
        rw [Nat.zero_add]
        exact this) hsz (by omega) (by omega) (by
        rw [hmap, map_data]
        have := join_len' (L.map Lib.itoa) (fun x hx => by obtain ⟨n, h1, rfl⟩ := List.mem_map.1 hx; exact itoa_le (HN.out n h1))
        rw [List.length_map] at this
        show (Lib.join (L.map Lib.itoa) [44, 32]).length ≤ _
        omega)
      rw [hSl, hmap, map_data] at J
      have HJ := Lib.hid J
      clear J hmap
      go_wp2_with fail
      refine (show Calls _ _ _ _ _ from HJ.out).mono ?_
      rintro e w2 ⟨rfl, hb2⟩
      have hbel2 : Below w.heap.size w w2 := hbel.trans (hb2.mono (by omega))
      clear hb2
      go_wp2_with fail
      go_ret
      exact ⟨rfl, hbel2⟩
end Go.Proofs.YtodbmnbahldabaaDoor
