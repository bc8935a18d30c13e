/- Decimal forms of numbers: both packages. -/
import Derived.Test.YtodbmnbahldabaaDoorShelf
import Derived.Test.YtodbmnbahldabaaDoorOwnB
import Derived.Laws.IdiomStrings
import Derived.Lib.ItoaNum
import Derived.Lib.AppendIntMem
import Derived.IntWalk
namespace Go.Proofs.YtodbmnbahldabaaDoor
open Go.ChangeShapes Go.WideShapes Go.ChangeAt Go.RowKit
set_option linter.unusedVariables false
set_option maxHeartbeats 8000000
set_option maxRecDepth 20000
/-- The library's table of powers holds what its text says. -/
def Tab (w : World) : Prop := Lib.TabIs Tryd.prog w "internal/strconv.uint64pow10" .u64 Lib.pow10Tab
theorem Tab.below {w w' : World} (h : Tab w) (hb : Below w.heap.size w w') : Tab w' := Lib.tabBelow_of_tabIs h w' hb
theorem below_grow (w : World) (k : Nat) (os : Array Obj) : Below w.heap.size w (Sort.grow (w.drewN k) os) := by
  refine ⟨rfl, rfl, rfl, by simp [Sort.grow, Array.size_append], fun i hi => ?_⟩
  show (w.heap ++ os)[i]? = w.heap[i]?
  rw [Array.getElem?_append_left hi]
theorem decimal_any (n : Int) (hn : -9223372036854775808 ≤ n ∧ n ≤ 9223372036854775807) (w : World) (ht : Tab w) :
    Calls Tryd.prog 26 #[.int .i64 n] w fun e w' => e = .returned (.string ⟨(Lib.itoa n).toArray⟩) ∧ Below w.heap.size w w' := by
  have FI := Lib.hid (Tryd.strconv_FormatInt_10 n hn.1 hn.2 w ht)
  clear ht
  go_enter Tryd.func26, Tryd.ntmps26
  go_wp2_with fail
  refine FI.out.mono ?_
  rintro e w1 ⟨rfl, k, os, rfl⟩
  have hb := below_grow w k os
  generalize Sort.grow (w.drewN k) os = w1 at *
  go_wp2_with fail
  go_ret
  exact ⟨rfl, hb⟩
/-- The digits of a number, none of 0. -/
def dg (u : Nat) : List UInt8 := if h : u = 0 then [] else dg (u / 10) ++ [UInt8.ofNat (48 + u % 10)]
termination_by u
decreasing_by omega
theorem dg_zero : dg 0 = [] := by rw [dg, dif_pos rfl]
theorem dg_pos {u : Nat} (h : u ≠ 0) : dg u = dg (u / 10) ++ [UInt8.ofNat (48 + u % 10)] := by rw [dg, dif_neg h]
theorem dg_dec (u : Nat) (h : u ≠ 0) : Lib.decDigits u = dg u := by
  induction u using Nat.strongRecOn with
  | _ u ih =>
    rw [dg_pos h, Lib.decDigits]
    by_cases h10 : u < 10
    · rw [dif_pos h10]
      have e1 : u / 10 = 0 := by omega
      have e2 : u % 10 = u := by omega
      rw [e1, e2, dg_zero]
      rfl
    · rw [dif_neg h10, ih (u / 10) (by omega) (by omega)]
theorem dg_len : ∀ (j u : Nat), u < 10 ^ j → (dg u).length ≤ j := by
  intro j
  induction j with
  | zero => intro u h; have : u = 0 := by simpa using h
            rw [this, dg_zero]; simp
  | succ j ih =>
    intro u h
    by_cases h0 : u = 0
    · rw [h0, dg_zero]; simp
    · rw [dg_pos h0, List.length_append]
      have := ih (u / 10) (by rw [Nat.pow_succ] at h; omega)
      simp
      omega
def gU (b : UInt8) : List Value := [.int .u8 b.toNat]
theorem gU_len (b : UInt8) : (gU b).length = 1 := rfl
abbrev OwnU (w : World) (B : Nat) (v : Value) (L : List UInt8) : Prop := Own w B 5 1 gU v L
theorem infoU : (Tryd.prog.info? 5).map (fun i => (i.zero, i.size, i.bytes)) = some (some (.int .u8 0), 1, 1) := by kernel_rfl
theorem rowsU (L : List UInt8) : rowsOf gU L = L.map (fun b => Value.int .u8 b.toNat) := by
  induction L with
  | nil => rfl
  | cons x L ih => simp [rowsOf, gU] at ih ⊢; exact ih
theorem byteU {m : Nat} (h : m < 10) : ((UInt8.ofNat (48 + m)).toNat : Int) = 48 + (m : Int) := by
  have : (UInt8.ofNat (48 + m)).toNat = 48 + m := by rw [UInt8.toNat_ofNat']; omega
  rw [this]; omega
theorem litU (w : World) (B : Nat) (c : Int) (b : UInt8) (hB : B ≤ w.heap.size) (hc : c = (b.toNat : Int)) : (w.alloc (.cells #[.int .u8 c] 5)).ownsRow B 5 1 (.slice (some ⟨w.heap.size, 0, none⟩) 1 1) 1 [.int .u8 c] :=
  World.ownsRow_lit (base := B) (e := 5) (size := 1) w #[.int .u8 c] 1 hB (by unfold maxLen; omega) rfl
theorem consU {w : World} {B : Nat} {v : Value} {L : List UInt8} {b : UInt8} {c : Int} (hc : c = (b.toNat : Int)) (h : w.ownsRow B 5 1 v (1 + L.length) ([.int .u8 c] ++ rowsOf gU L)) : OwnU w B v (b :: L) := by
  have e : rowsOf gU (b :: L) = [.int .u8 c] ++ rowsOf gU L := by rw [hc]; rfl
  unfold OwnU Own
  rw [e, List.length_cons, Nat.add_comm]
  exact h
theorem strU {w : World} {B b cap : Nat} {L : List UInt8} (h : OwnU w B (.slice (some ⟨b, 0, none⟩) L.length cap) L) :
    (convert 28 9 (.slice (some ⟨b, 0, none⟩) L.length cap)).run Tryd.prog w = .ok (.string ⟨L.toArray⟩) w := by
  refine run_convert_bytes_back w 28 9 5 ⟨b, 0, none⟩ cap L Tryd.underlying28 Tryd.underlying5 Tryd.underlying9 ?_
  intro j hj
  have h1 := Own.cell gU_len h j 0 hj (by omega)
  rw [Addr.add_lit, Nat.zero_add]
  simpa [gU] using h1
theorem itoa_of {n : Int} : Lib.itoa n = if n = 0 then [48] else (if n < 0 then 45 :: dg n.natAbs else dg n.natAbs) := by
  unfold Lib.itoa
  by_cases h0 : n = 0
  · subst h0
    rw [if_pos rfl, if_neg (by omega)]
    rw [Lib.decDigits]
    rfl
  · rw [if_neg h0]
    split
    · rw [dg_dec _ (by omega)]
    · have e : n.toNat = n.natAbs := by omega
      rw [e, dg_dec _ (by omega)]
theorem l01Dec_any (n : Int) (hn : -9223372036854775808 ≤ n ∧ n ≤ 9223372036854775807) (w : World) :
    Calls Tryd.prog 23 #[.int .i64 n] w fun e w' => e = .returned (.string ⟨(Lib.itoa n).toArray⟩) ∧ Below w.heap.size w w' := by
  have HL := Lib.hid (dg_len 19 n.natAbs (by omega))
  have HI := Lib.hid (itoa_of (n := n))
  generalize Lib.itoa n = I at *
  obtain ⟨D, hD⟩ : ∃ D, dg n.natAbs = D := ⟨_, rfl⟩
  rw [hD] at HL HI
  have HD := Lib.hid hD
  clear hD
  obtain ⟨i0', hi, hz0, hz1, hz2⟩ := info_parts infoU
  have HU := Lib.hid (And.intro hi (And.intro hz0 (And.intro hz1 hz2)))
  clear hi hz0 hz1 hz2
  go_enter Tryd.func23, Tryd.ntmps23
  go_wp2_with fail
  go_loopg [3, 4] n.natAbs (fun f v u wr => ∃ (k : Int) (L : List UInt8) (b cap : Nat), u = .int .i64 k ∧ f = k.natAbs ∧ (-9223372036854775808 ≤ k ∧ k ≤ 9223372036854775807) ∧ v = .slice (some ⟨b, 0, none⟩) L.length cap ∧ Hid (OwnU wr w.heap.size v L) ∧ Hid (D = dg k.natAbs ++ L) ∧ Below w.heap.size w wr)
  case atStart => exact ⟨n, [], w.heap.size, 0, rfl, rfl, hn, rfl, Lib.hid (Own.empty w _ _ _ _ (Nat.le_refl _)), Lib.hid (by rw [HD.out, List.append_nil]), (by repeat' (first | (with_reducible exact Below.refl _ _) | (with_reducible assumption) | (with_reducible refine Below.setCell ?_ ?_ _) | (with_reducible refine Below.alloc ?_ ?_ _) | (with_reducible refine Below.drew ?_) | (with_reducible refine below_drewN ?_ _) | (with_reducible refine Below.trans ?_ (Below.mono (by with_reducible assumption) ?_)) | go_size | (simp at *; omega)))⟩
  case round =>
    obtain ⟨k, L, b, cap, rfl, hf, hk, rfl, HO, HE, hbel⟩ := hrel
    have hzr := hbel.size
    have hlen : L.length ≤ 19 := by
      have h1 := HL.out
      rw [HE.out, List.length_append] at h1
      omega
    by_cases h0 : k = 0
    · subst h0
      have HE2 : Hid (D = L) := Lib.hid (by rw [HE.out]; show dg 0 ++ L = L; rw [dg_zero]; rfl)
      have hs := strU HO.out
      clear HE
      by_cases hl : L.length = 0
      · have hn0 : n = 0 := by
          by_cases h : n = 0
          · exact h
          · have e : L = [] := List.eq_nil_of_length_eq_zero hl
            have h1 := HD.out
            rw [HE2.out, e, dg_pos (by omega)] at h1
            simp at h1
        have HX : Hid (I = [48]) := Lib.hid (by rw [HI.out, if_pos hn0])
        have hl0 : ((L.length : Int) == 0) = true := by simp [hl]
        clear hn0
        go_wp2_with fail
        go_ret
        exact ⟨by rw [HX.out]; rfl, hbel⟩
      · have hn0 : n ≠ 0 := by
          intro h
          have h1 := HD.out
          rw [HE2.out, h] at h1
          have : dg (0 : Int).natAbs = [] := dg_zero
          rw [this] at h1
          rw [← h1] at hl
          simp at hl
        by_cases hneg : n < 0
        · have HX : Hid (I = 45 :: L) := Lib.hid (by rw [HI.out, if_neg hn0, if_pos hneg, HE2.out])
          go_wp2_with fail
          go_ret
          exact ⟨by rw [HX.out]; rfl, hbel⟩
        · have HX : Hid (I = L) := Lib.hid (by rw [HI.out, if_neg hn0, if_neg hneg, HE2.out])
          go_wp2_with fail
          go_ret
          exact ⟨by rw [HX.out]; rfl, hbel⟩
    · have hkn : k.natAbs ≠ 0 := by omega
      have hm10 : k.natAbs % 10 < 10 := Nat.mod_lt _ (by omega)
      have HS : Hid (dg k.natAbs = dg (k.tdiv 10).natAbs ++ [UInt8.ofNat (48 + k.natAbs % 10)]) := Lib.hid (by rw [dg_pos hkn, Int.natAbs_tdiv]; rfl)
      have hq : (k.tdiv 10).natAbs = k.natAbs / 10 := by rw [Int.natAbs_tdiv]; rfl
      have hqb : -9223372036854775808 ≤ k.tdiv 10 ∧ k.tdiv 10 ≤ 9223372036854775807 := by omega
      have hr : (k.tmod 10).natAbs = k.natAbs % 10 := by rw [Int.natAbs_tmod]; rfl
      have hbt := byteU hm10
      generalize hM : k.natAbs % 10 = m at *
      generalize hB : UInt8.ofNat (48 + m) = bt at *
      have hk0 : (k != 0) = true := by simp [h0]
      obtain ⟨r, hr0⟩ : ∃ r, k.tmod 10 = r := ⟨_, rfl⟩
      rw [hr0] at hr
      obtain ⟨q, hq0⟩ : ∃ q, k.tdiv 10 = q := ⟨_, rfl⟩
      rw [hq0] at hq hqb HS
      by_cases hneg : r < 0
      · have hd : -r = (m : Int) := by omega
        obtain ⟨hi, hz0, hz1, hz2⟩ := HU.out
        go_wp2_with (at_builtin; refine wpList_append_own _ rfl _ _ 28 rfl w.heap.size 5 i0' (.int .u8 0) 1 1 Tryd.underlying28 hi hz0 hz1 hz2 rfl (by decide) _ 1 [.int .u8 (48 + (m : Int))] rfl (litU wr w.heap.size _ bt hzr hbt.symm) ⟨b, 0, none⟩ L.length cap (rowsOf gU L) rfl ?c0 ?c1 ?c2 ?c3 ?c4 ?c5 ?_)
        case c0 => rw [rowsU]; simp
        case c1 =>
          intro j x hx
          have hj : j < L.length := by
            have h1 := (List.getElem?_eq_some_iff.1 hx).1
            rw [rowsU] at h1
            simpa using h1
          have h1 := World.ownsRow.cellAt (World.ownsRow.alloc HO.out (.cells #[.int .u8 (48 + (m : Int))] 5)) j (by omega)
          try rw [Addr.add_lit, Nat.zero_add]
          rw [h1]
          exact hx
        case c2 =>
          intro x hx
          rw [rowsU] at hx
          simp at hx
          obtain ⟨y, -, rfl⟩ := hx
          rfl
        case c3 => unfold maxLen; omega
        case c4 => omega
        case c5 => first | omega | (simp; omega)
        intro v' w3 hown' hgrow hnn
        have HN := Lib.hid (consU hbt.symm hown')
        have hb3 : Below w.heap.size w w3 := Below.grown (Below.alloc hbel (by omega) _) hgrow (by simp; omega) (fun k hk => by have h5 := Option.some.inj (show some wr.heap.size = some k from hk); omega)
        clear hown' hgrow hnn hi hz0 hz1 hz2
        have HSh := HN.out.shape
        rcases HSh with ⟨hnil, -⟩ | ⟨-, b3, cap3, rfl, -⟩
        · cases hnil
        go_wp2_with fail
        go_roundg q.natAbs
        case measure => omega
        case rel => exact ⟨_, bt :: L, b3, cap3, rfl, rfl, hqb, by simp, HN.out |> Lib.hid, Lib.hid (by rw [HE.out, HS.out]; simp), hb3⟩
      · have hr1 : r = (m : Int) := by omega
        subst hr1
        obtain ⟨hi, hz0, hz1, hz2⟩ := HU.out
        go_wp2_with (at_builtin; refine wpList_append_own _ rfl _ _ 28 rfl w.heap.size 5 i0' (.int .u8 0) 1 1 Tryd.underlying28 hi hz0 hz1 hz2 rfl (by decide) _ 1 [.int .u8 (48 + (m : Int))] rfl (litU wr w.heap.size _ bt hzr hbt.symm) ⟨b, 0, none⟩ L.length cap (rowsOf gU L) rfl ?c0 ?c1 ?c2 ?c3 ?c4 ?c5 ?_)
        case c0 => rw [rowsU]; simp
        case c1 =>
          intro j x hx
          have hj : j < L.length := by
            have h1 := (List.getElem?_eq_some_iff.1 hx).1
            rw [rowsU] at h1
            simpa using h1
          have h1 := World.ownsRow.cellAt (World.ownsRow.alloc HO.out (.cells #[.int .u8 (48 + (m : Int))] 5)) j (by omega)
          try rw [Addr.add_lit, Nat.zero_add]
          rw [h1]
          exact hx
        case c2 =>
          intro x hx
          rw [rowsU] at hx
          simp at hx
          obtain ⟨y, -, rfl⟩ := hx
          rfl
        case c3 => unfold maxLen; omega
        case c4 => omega
        case c5 => first | omega | (simp; omega)
        intro v' w3 hown' hgrow hnn
        have HN := Lib.hid (consU hbt.symm hown')
        have hb3 : Below w.heap.size w w3 := Below.grown (Below.alloc hbel (by omega) _) hgrow (by simp; omega) (fun k hk => by have h5 := Option.some.inj (show some wr.heap.size = some k from hk); omega)
        clear hown' hgrow hnn hi hz0 hz1 hz2
        have HSh := HN.out.shape
        rcases HSh with ⟨hnil, -⟩ | ⟨-, b3, cap3, rfl, -⟩
        · cases hnil
        go_wp2_with fail
        go_roundg q.natAbs
        case measure => omega
        case rel => exact ⟨_, bt :: L, b3, cap3, rfl, rfl, hqb, by simp, HN.out |> Lib.hid, Lib.hid (by rw [HE.out, HS.out]; simp), hb3⟩
end Go.Proofs.YtodbmnbahldabaaDoor
