/- Lists of forms that a call itself has made. -/
import Derived.Test.YtolbihoeheogkaaFormK
import Derived.Test.YtolbihoeheogkaaOwn
namespace Go.Proofs.Ytolbihoeheogkaa
open Go.ChangeShapes Go.WideShapes Go.ChangeAt Go.RowKit
set_option linter.unusedVariables false
set_option maxHeartbeats 1000000
def gF (f : Fm) : List Value := [.int .i64 f.a, .int .i64 f.b, .int .i64 f.c]
theorem gF_len (f : Fm) : (gF f).length = 3 := rfl
abbrev OwnF (w : World) (B : Nat) (v : Value) (L : List Fm) : Prop := Own w B 25 3 gF v L
theorem infoF : (Try.prog.info? 25).map (fun i => (i.zero, i.size, i.bytes)) = some (some (.agg #[.int .i64 0, .int .i64 0, .int .i64 0]), 3, 24) := by kernel_rfl
theorem OwnF.cells {w : World} {B b cap : Nat} {L : List Fm} (h : OwnF w B (.slice (some ⟨b, 0, none⟩) L.length cap) L) (i : Nat) (hi : i < L.length) :
    w.cell? ⟨b, i * 3, none⟩ = some (.int .i64 (L[i]).a) ∧ w.cell? ⟨b, i * 3 + 1, none⟩ = some (.int .i64 (L[i]).b) ∧ w.cell? ⟨b, i * 3 + 2, none⟩ = some (.int .i64 (L[i]).c) :=
  ⟨Own.cell gF_len h i 0 hi (by omega), Own.cell gF_len h i 1 hi (by omega), Own.cell gF_len h i 2 hi (by omega)⟩
theorem eqFormS_same (v1 v2 : Value) (L : List Fm) (B1 B2 : Nat) (w : World) (h1 : OwnF w B1 v1 L) (h2 : OwnF w B2 v2 L) (hl : L.length ≤ 1000000) :
    Calls Try.prog 30 #[v1, v2] w fun e w' => e = .returned (.bool true) ∧ Below w.heap.size w w' := by
  rcases h1.shape with ⟨rfl, ao, c1, rfl⟩ | ⟨hp, b, c1, rfl, _, hb, _⟩
  · obtain ⟨bo, c2, rfl⟩ := h2.len
    go_enter Try.func30, Try.ntmps30
    go_wp2
    go_loopg [5] 1 (fun k u wr => u = .int .i64 0 ∧ w = wr)
    case atStart => exact ⟨rfl, rfl⟩
    case round =>
      obtain ⟨rfl, rfl⟩ := hrel
      go_wp2
      go_ret
      exact ⟨rfl, (by repeat' (first | (with_reducible exact Below.refl _ _) | (with_reducible assumption) | (with_reducible refine Below.setCell ?_ ?_ _) | (with_reducible refine Below.alloc ?_ ?_ _) | (with_reducible refine Below.drew ?_) | (with_reducible refine below_drewN ?_ _) | (with_reducible refine Below.trans ?_ (Below.mono (by with_reducible assumption) ?_)) | go_size | (simp at *; omega)))⟩
  · rcases h2.shape with ⟨rfl, _⟩ | ⟨hp2, b2, c2, rfl, _, hb2, _⟩
    · simp at hp
    · have H1 := Lib.hid h1
      have H2 := Lib.hid h2
      clear h1 h2
      go_enter Try.func30, Try.ntmps30
      go_wp2
      go_loopg [5] L.length (fun k u wr => ∃ i : Nat, u = .int .i64 i ∧ i + k = L.length ∧ Below w.heap.size w wr)
      case atStart => exact ⟨0, rfl, by omega, Below.refl _ _⟩
      case round =>
        obtain ⟨i, rfl, hi, hbel⟩ := hrel
        by_cases hlt : i < L.length
        · have hsz := hbel.size
          obtain ⟨x1, x2, x3⟩ := OwnF.cells (H1.out.below hbel) i hlt
          obtain ⟨y1, y2, y3⟩ := OwnF.cells (H2.out.below hbel) i hlt
          go_wp2
          have i0 : (0 : Int) ≤ (i : Int) := by omega
          have i1 : (i : Int) < (L.length : Int) := by omega
          go_region_with (go_at_call 25; refine (eqForm_same _ _ _ _).mono ?_; rintro e w1 ⟨rfl, hb1⟩; obtain ⟨hc1, hf1, hl1, hB1⟩ := bcell hb1; have hz1 := hb1.size; (try simp at hz1); (try have hk0 : w.heap.size < w1.heap.size := by omega); (try have hk1 : w.heap.size + 1 < w1.heap.size := by omega); (try have hk2 : w.heap.size + 1 + 1 < w1.heap.size := by omega))
          all_goals
            go_wp2_with fail
            go_roundg (gk - 1)
            case measure => omega
            case rel => exact ⟨i + 1, by go_num, by omega, (by repeat' (first | (with_reducible exact Below.refl _ _) | (with_reducible assumption) | (with_reducible refine Below.setCell ?_ ?_ _) | (with_reducible refine Below.alloc ?_ ?_ _) | (with_reducible refine Below.drew ?_) | (with_reducible refine below_drewN ?_ _) | (with_reducible refine Below.trans ?_ (Below.mono (by with_reducible assumption) ?_)) | go_size | (simp at *; omega)))⟩
        · go_wp2
          go_ret
          exact ⟨rfl, (by repeat' (first | (with_reducible exact Below.refl _ _) | (with_reducible assumption) | (with_reducible refine Below.setCell ?_ ?_ _) | (with_reducible refine Below.alloc ?_ ?_ _) | (with_reducible refine Below.drew ?_) | (with_reducible refine below_drewN ?_ _) | (with_reducible refine Below.trans ?_ (Below.mono (by with_reducible assumption) ?_)) | go_size | (simp at *; omega)))⟩
/-- The marks that the law lays on a list of forms. -/
def mkF (k : Nat) (L : List Fm) : Nat → List Fm
  | 0 => L
  | i + 1 => (mkF k L i).set i ⟨k + 3 * i, k + 3 * i + 1, k + 3 * i + 2⟩
theorem mkF_len (k : Nat) (L : List Fm) (i : Nat) : (mkF k L i).length = L.length := by
  induction i with
  | zero => rfl
  | succ i ih => unfold mkF; rw [List.length_set, ih]
theorem mkF_get (k : Nat) (L : List Fm) : ∀ (i j : Nat), j < i → i ≤ L.length → (mkF k L i)[j]? = some ⟨k + 3 * j, k + 3 * j + 1, k + 3 * j + 2⟩ := by
  intro i
  induction i with
  | zero => intro j h; omega
  | succ i ih =>
    intro j h h2
    unfold mkF
    rcases Nat.lt_or_ge j i with h3 | h3
    · rw [List.getElem?_set_ne (by omega)]
      exact ih j h3 (by omega)
    · have : j = i := by omega
      subst this
      rw [List.getElem?_set_self (by rw [mkF_len]; omega)]
theorem rows_set (L : List Fm) : ∀ (i : Nat) (x y z : Int), i < L.length → (((rowsOf gF L).set (i * 3) (.int .i64 x)).set (i * 3 + 1) (.int .i64 y)).set (i * 3 + 2) (.int .i64 z) = rowsOf gF (L.set i ⟨x, y, z⟩) := by
  induction L with
  | nil => intro i x y z h; simp at h
  | cons f L ih =>
    intro i x y z h
    have e : ∀ M : List Fm, ∀ f, rowsOf gF (f :: M) = .int .i64 f.a :: .int .i64 f.b :: .int .i64 f.c :: rowsOf gF M := fun M f => by simp [rowsOf, gF]
    cases i with
    | zero => rw [List.set_cons_zero, e, e]; rfl
    | succ i =>
      rw [List.set_cons_succ, e, e, ← ih i x y z (by simpa using h)]
      have e1 : (i + 1) * 3 = i * 3 + 1 + 1 + 1 := by omega
      rw [e1]
      rfl
theorem mark3 {w : World} {B b cap n : Nat} {L : List Fm} (h : OwnF w B (.slice (some ⟨b, 0, none⟩) n cap) L) (hn : L.length = n) {i : Nat} (hi : i < n) (x y z : Int) :
    OwnF (((w.setCell ⟨b, i * 3, none⟩ (.int .i64 x)).setCell ⟨b, i * 3 + 1, none⟩ (.int .i64 y)).setCell ⟨b, i * 3 + 2, none⟩ (.int .i64 z)) B (.slice (some ⟨b, 0, none⟩) n cap) (L.set i ⟨x, y, z⟩) ∧
    w.grownBy (((w.setCell ⟨b, i * 3, none⟩ (.int .i64 x)).setCell ⟨b, i * 3 + 1, none⟩ (.int .i64 y)).setCell ⟨b, i * 3 + 2, none⟩ (.int .i64 z)) (some b) := by
  subst hn
  obtain ⟨h1, g1⟩ := World.ownsRow.stored h (i * 3) (.int .i64 x)
  obtain ⟨h2, g2⟩ := World.ownsRow.stored h1 (i * 3 + 1) (.int .i64 y)
  obtain ⟨h3, g3⟩ := World.ownsRow.stored h2 (i * 3 + 2) (.int .i64 z)
  refine ⟨?_, ⟨by rw [g3.os, g2.os, g1.os], by rw [g3.tape, g2.tape, g1.tape], by rw [g3.output, g2.output, g1.output], Nat.le_trans g1.size (Nat.le_trans g2.size g3.size), fun k hk hne => ?_⟩⟩
  · unfold OwnF Own
    rw [List.length_set, ← rows_set L i x y z hi]
    exact h3
  · rw [g3.block k (Nat.lt_of_lt_of_le hk (Nat.le_trans g1.size g2.size)) hne, g2.block k (Nat.lt_of_lt_of_le hk g1.size) hne, g1.block k hk hne]
theorem grown_trans {a b c : World} {row : Option Nat} (h : a.grownBy b row) (k : b.grownBy c row) : a.grownBy c row :=
  ⟨k.os.trans h.os, k.tape.trans h.tape, k.output.trans h.output, Nat.le_trans h.size k.size, fun i hi hne => (k.block i (Nat.lt_of_lt_of_le hi h.size) hne).trans (h.block i hi hne)⟩
theorem own_three {w : World} {B b cap n : Nat} {L : List Fm} (h : OwnF w B (.slice (some ⟨b, 0, none⟩) n cap) L) (hn : L.length = n) {i : Nat} (hi : i < n) :
    ∃ x y z : Value, w.cell? ⟨b, i * 3, none⟩ = some x ∧ w.cell? ⟨b, i * 3 + 1, none⟩ = some y ∧ w.cell? ⟨b, i * 3 + 2, none⟩ = some z ∧
      w.frozen? ⟨b, i * 3, none⟩ = false ∧ w.frozen? ⟨b, i * 3 + 1, none⟩ = false ∧ w.frozen? ⟨b, i * 3 + 2, none⟩ = false := by
  subst hn
  obtain ⟨h1, h2, h3⟩ := OwnF.cells h i hi
  exact ⟨_, _, _, h1, h2, h3, Own.free h _, Own.free h _, Own.free h _⟩
theorem markFormS_any (v : Value) (L : List Fm) (B : Nat) (w : World) (h : OwnF w B v L) (hl : L.length ≤ 1000000) :
    Calls Try.prog 31 #[v, .int .i64 1] w fun e w' => e = .returned (.int .i64 (1 + 3 * (L.length : Int))) ∧ OwnF w' B v (mkF 1 L L.length) ∧ w.grownBy w' v.ownBlock := by
  rcases h.shape with ⟨rfl, ao, c1, rfl⟩ | ⟨hp, b, c1, rfl, _, hb, _⟩
  · have H := Lib.hid h
    clear h
    go_enter Try.func31, Try.ntmps31
    go_wp2
    go_loopg [1, 5] 1 (fun k s u wr => s = .int .i64 1 ∧ u = .int .i64 0 ∧ w = wr)
    case atStart => exact ⟨rfl, rfl, rfl⟩
    case round =>
      obtain ⟨rfl, rfl, rfl⟩ := hrel
      go_wp2
      go_ret
      exact ⟨rfl, H.out, World.grownBy.refl _ _⟩
  · have H := Lib.hid h
    clear h
    go_enter Try.func31, Try.ntmps31
    go_wp2
    go_loopg [1, 5] L.length (fun k s u wr => ∃ i : Nat, s = .int .i64 (1 + 3 * (i : Int)) ∧ u = .int .i64 i ∧ i + k = L.length ∧ Hid (OwnF wr B (.slice (some ⟨b, 0, none⟩) L.length c1) (mkF 1 L i)) ∧ Hid (w.grownBy wr (some b)))
    case atStart => exact ⟨0, rfl, rfl, by omega, H, Lib.hid (World.grownBy.refl _ _)⟩
    case round =>
      obtain ⟨i, rfl, rfl, hi, HO, HG⟩ := hrel
      by_cases hlt : i < L.length
      · obtain ⟨x, y, z, x1, x2, x3, f1, f2, f3⟩ := own_three HO.out (mkF_len 1 L i) hlt
        have i0 : (0 : Int) ≤ (i : Int) := by omega
        have i1 : (i : Int) < (L.length : Int) := by omega
        go_wp2
        go_roundg (gk - 1)
        case measure => omega
        case rel => exact ⟨i + 1, by go_num, by go_num, by omega, Lib.hid (mark3 HO.out (mkF_len 1 L i) hlt _ _ _).1, Lib.hid (grown_trans HG.out (mark3 HO.out (mkF_len 1 L i) hlt _ _ _).2)⟩
      · have he : i = L.length := by omega
        subst he
        go_wp2
        go_ret
        exact ⟨rfl, HO.out, HG.out⟩
end Go.Proofs.Ytolbihoeheogkaa
