/- Lists of numbers that a call itself has made. -/
import Derived.Test.YtodbmnbahldabaaOwnB
namespace Go.Proofs.Ytodbmnbahldabaa
open Go.ChangeShapes Go.WideShapes Go.ChangeAt Go.RowKit
set_option linter.unusedVariables false
set_option maxHeartbeats 1000000
def gI1 (n : Int) : List Value := [.int .i64 n]
theorem gI1_len (n : Int) : (gI1 n).length = 1 := rfl
abbrev OwnI (w : World) (B : Nat) (v : Value) (L : List Int) : Prop := Own w B 2 1 gI1 v L
theorem infoI : (Try.prog.info? 2).map (fun i => (i.zero, i.size, i.bytes)) = some (some (.int .i64 0), 1, 8) := by kernel_rfl
theorem OwnI.cells {w : World} {B b cap : Nat} {L : List Int} (h : OwnI w B (.slice (some ⟨b, 0, none⟩) L.length cap) L) (i : Nat) (hi : i < L.length) : w.cell? ⟨b, i, none⟩ = some (.int .i64 L[i]) := by
  have := Own.cell gI1_len h i 0 hi (by omega)
  simpa [gI1] using this
theorem one_cell (x : Int) : ∀ u ∈ [Value.int .i64 x], u.oneCell' = true := by
  intro u hu
  simp at hu
  subst hu
  rfl
theorem appI {w' : World} {B : Nat} {v' : Value} {L : List Int} {f : Int} (h : w'.ownsRow B 2 1 v' (L.length + 1) (rowsOf gI1 L ++ [.int .i64 f])) : OwnI w' B v' (L ++ [f]) := Own.more (x := f) h
theorem eqInt64S_same (v1 v2 : Value) (L : List Int) (B1 B2 : Nat) (w : World) (h1 : OwnI w B1 v1 L) (h2 : OwnI w B2 v2 L) (hl : L.length ≤ 1000000) :
    Calls Try.prog 31 #[v1, v2] w fun e w' => e = .returned (.bool true) ∧ Below w.heap.size w w' := by
  rcases h1.shape with ⟨rfl, ao, c1, rfl⟩ | ⟨hp, b, c1, rfl, _, hb, _⟩
  · obtain ⟨bo, c2, rfl⟩ := h2.len
    go_enter Try.func31, Try.ntmps31
    go_wp2
    go_loopg [5] 1 (fun k u wr => u = .int .i64 0 ∧ w = wr)
    case atStart => exact ⟨rfl, rfl⟩
    case round =>
      obtain ⟨rfl, rfl⟩ := hrel
      go_wp2
      go_ret
      exact ⟨rfl, (by repeat' (first | (with_reducible exact Below.refl _ _) | (with_reducible assumption) | (with_reducible refine Below.setCell ?_ ?_ _) | (with_reducible refine Below.alloc ?_ ?_ _) | (with_reducible refine Below.drew ?_) | (with_reducible refine below_drewN ?_ _) | (with_reducible refine Below.trans ?_ (Below.mono (by with_reducible assumption) ?_)) | go_size | (simp at *; omega)))⟩
  · rcases h2.shape with ⟨rfl, _⟩ | ⟨hp2, b2, c2, rfl, _, hb2, _⟩
    · simp at hp
    · have H1 := Lib.hid h1
      have H2 := Lib.hid h2
      clear h1 h2
      go_enter Try.func31, Try.ntmps31
      go_wp2
      go_loopg [5] L.length (fun k u wr => ∃ i : Nat, u = .int .i64 i ∧ i + k = L.length ∧ Below w.heap.size w wr)
      case atStart => exact ⟨0, rfl, by omega, Below.refl _ _⟩
      case round =>
        obtain ⟨i, rfl, hi, hbel⟩ := hrel
        by_cases hlt : i < L.length
        · have hsz := hbel.size
          have x1 := OwnI.cells (H1.out.below hbel) i hlt
          have y1 := OwnI.cells (H2.out.below hbel) i hlt
          have i0 : (0 : Int) ≤ (i : Int) := by omega
          have i1 : (i : Int) < (L.length : Int) := by omega
          go_wp2
          go_quiet (fail)
          go_wp2
          go_roundg (gk - 1)
          case measure => omega
          case rel => exact ⟨i + 1, by go_num, by omega, (by repeat' (first | (with_reducible exact Below.refl _ _) | (with_reducible assumption) | (with_reducible refine Below.setCell ?_ ?_ _) | (with_reducible refine Below.alloc ?_ ?_ _) | (with_reducible refine Below.drew ?_) | (with_reducible refine below_drewN ?_ _) | (with_reducible refine Below.trans ?_ (Below.mono (by with_reducible assumption) ?_)) | go_size | (simp at *; omega)))⟩
        · go_wp2
          go_ret
          exact ⟨rfl, (by repeat' (first | (with_reducible exact Below.refl _ _) | (with_reducible assumption) | (with_reducible refine Below.setCell ?_ ?_ _) | (with_reducible refine Below.alloc ?_ ?_ _) | (with_reducible refine Below.drew ?_) | (with_reducible refine below_drewN ?_ _) | (with_reducible refine Below.trans ?_ (Below.mono (by with_reducible assumption) ?_)) | go_size | (simp at *; omega)))⟩
/-- The marks that the law lays on a list of numbers. -/
def mkI (k : Nat) (L : List Int) : Nat → List Int
  | 0 => L
  | i + 1 => (mkI k L i).set i (k + i)
theorem mkI_len (k : Nat) (L : List Int) (i : Nat) : (mkI k L i).length = L.length := by
  induction i with
  | zero => rfl
  | succ i ih => unfold mkI; rw [List.length_set, ih]
theorem mkI_get (k : Nat) (L : List Int) : ∀ (i j : Nat), j < i → i ≤ L.length → (mkI k L i)[j]? = some ((k : Int) + j) := by
  intro i
  induction i with
  | zero => intro j h; omega
  | succ i ih =>
    intro j h h2
    unfold mkI
    rcases Nat.lt_or_ge j i with h3 | h3
    · rw [List.getElem?_set_ne (by omega)]
      exact ih j h3 (by omega)
    · have : j = i := by omega
      subst this
      rw [List.getElem?_set_self (by rw [mkI_len]; omega)]
theorem rows_setI (L : List Int) : ∀ (i : Nat) (x : Int), i < L.length → (rowsOf gI1 L).set i (.int .i64 x) = rowsOf gI1 (L.set i x) := by
  induction L with
  | nil => intro i x h; simp at h
  | cons f L ih =>
    intro i x h
    have e : ∀ M : List Int, ∀ f, rowsOf gI1 (f :: M) = .int .i64 f :: rowsOf gI1 M := fun M f => by simp [rowsOf, gI1]
    cases i with
    | zero => rw [List.set_cons_zero, e, e]; rfl
    | succ i => rw [List.set_cons_succ, e, e, ← ih i x (by simpa using h)]; rfl
theorem markI1 {w : World} {B b cap n : Nat} {L : List Int} (h : OwnI w B (.slice (some ⟨b, 0, none⟩) n cap) L) (hn : L.length = n) {i : Nat} (hi : i < n) (x : Int) :
    OwnI (w.setCell ⟨b, i, none⟩ (.int .i64 x)) B (.slice (some ⟨b, 0, none⟩) n cap) (L.set i x) ∧ w.grownBy (w.setCell ⟨b, i, none⟩ (.int .i64 x)) (some b) := by
  subst hn
  obtain ⟨h1, g1⟩ := World.ownsRow.stored h i (.int .i64 x)
  refine ⟨?_, g1⟩
  unfold OwnI Own
  rw [List.length_set, ← rows_setI L i x hi]
  exact h1
theorem ownI_one {w : World} {B b cap n : Nat} {L : List Int} (h : OwnI w B (.slice (some ⟨b, 0, none⟩) n cap) L) (hn : L.length = n) {i : Nat} (hi : i < n) :
    ∃ x : Value, w.cell? ⟨b, i, none⟩ = some x ∧ w.frozen? ⟨b, i, none⟩ = false := by
  subst hn
  exact ⟨_, OwnI.cells h i hi, Own.free h _⟩
theorem markInt64S_any (v : Value) (L : List Int) (B : Nat) (w : World) (h : OwnI w B v L) (hl : L.length ≤ 1000000) :
    Calls Try.prog 32 #[v, .int .i64 1] w fun e w' => e = .returned (.int .i64 (1 + (L.length : Int))) ∧ OwnI w' B v (mkI 1 L L.length) ∧ w.grownBy w' v.ownBlock := by
  rcases h.shape with ⟨rfl, ao, c1, rfl⟩ | ⟨hp, b, c1, rfl, _, hb, _⟩
  · have H := Lib.hid h
    clear h
    go_enter Try.func32, Try.ntmps32
    go_wp2
    go_loopg [1, 5] 1 (fun k s u wr => s = .int .i64 1 ∧ u = .int .i64 0 ∧ w = wr)
    case atStart => exact ⟨rfl, rfl, rfl⟩
    case round =>
      obtain ⟨rfl, rfl, rfl⟩ := hrel
      go_wp2
      go_ret
      exact ⟨rfl, H.out, World.grownBy.refl _ _⟩
  · have H := Lib.hid h
    clear h
    go_enter Try.func32, Try.ntmps32
    go_wp2
    go_loopg [1, 5] L.length (fun k s u wr => ∃ i : Nat, s = .int .i64 (1 + (i : Int)) ∧ u = .int .i64 i ∧ i + k = L.length ∧ Hid (OwnI wr B (.slice (some ⟨b, 0, none⟩) L.length c1) (mkI 1 L i)) ∧ Hid (w.grownBy wr (some b)))
    case atStart => exact ⟨0, rfl, rfl, by omega, H, Lib.hid (World.grownBy.refl _ _)⟩
    case round =>
      obtain ⟨i, rfl, rfl, hi, HO, HG⟩ := hrel
      by_cases hlt : i < L.length
      · obtain ⟨x, x1, f1⟩ := ownI_one HO.out (mkI_len 1 L i) hlt
        have i0 : (0 : Int) ≤ (i : Int) := by omega
        have i1 : (i : Int) < (L.length : Int) := by omega
        go_wp2
        go_roundg (gk - 1)
        case measure => omega
        case rel => exact ⟨i + 1, by go_num, by go_num, by omega, Lib.hid (markI1 HO.out (mkI_len 1 L i) hlt _).1, Lib.hid (gtr HG.out (markI1 HO.out (mkI_len 1 L i) hlt _).2)⟩
      · have he : i = L.length := by omega
        subst he
        go_wp2
        go_ret
        exact ⟨rfl, HO.out, HG.out⟩
theorem mkI_cells {w : World} {B b cap : Nat} {L : List Int} (h : OwnI w B (.slice (some ⟨b, 0, none⟩) L.length cap) (mkI 1 L L.length)) {i : Nat} (hi : i < L.length) :
    w.cell? ⟨b, i, none⟩ = some (.int .i64 (1 + (i : Int))) := by
  have e := mkI_len 1 L L.length
  have q := mkI_get 1 L L.length i hi (Nat.le_refl _)
  generalize mkI 1 L L.length = M at *
  rw [← e] at h
  have him : i < M.length := by omega
  have c := OwnI.cells h i him
  rw [List.getElem?_eq_getElem him] at q
  have q2 := Option.some.inj q
  rw [q2] at c
  exact c
theorem heldInt64S_any (v : Value) (L : List Int) (B : Nat) (w : World) (h : OwnI w B v (mkI 1 L L.length)) (hl : L.length ≤ 1000000) :
    Calls Try.prog 33 #[v, .int .i64 1] w fun e w' => e = .returned (.int .i64 (1 + (L.length : Int))) ∧ w = w' := by
  have hlen := mkI_len 1 L L.length
  rcases h.shape with ⟨h0, ao, c1, rfl⟩ | ⟨hp, b, c1, rfl, _, hb, _⟩
  · have h1 : L.length = 0 := by rw [← hlen, h0]; rfl
    have H := Lib.hid h1
    clear h h0 hlen h1
    go_enter Try.func33, Try.ntmps33
    go_wp2
    go_loopg [1, 5] 1 (fun k s u wr => s = .int .i64 1 ∧ u = .int .i64 0 ∧ w = wr)
    case atStart => exact ⟨rfl, rfl, rfl⟩
    case round =>
      obtain ⟨rfl, rfl, rfl⟩ := hrel
      go_wp2
      go_ret
      exact ⟨ret_int (by rw [H.out]; rfl), rfl⟩
  · rw [hlen] at h hp ⊢
    have H := Lib.hid h
    clear h hlen
    go_enter Try.func33, Try.ntmps33
    go_wp2
    go_loopg [1, 5] L.length (fun k s u wr => ∃ i : Nat, s = .int .i64 (1 + (i : Int)) ∧ u = .int .i64 i ∧ i + k = L.length ∧ w = wr)
    case atStart => exact ⟨0, rfl, rfl, by omega, rfl⟩
    case round =>
      obtain ⟨i, rfl, rfl, hi, rfl⟩ := hrel
      by_cases hlt : i < L.length
      · have x1 := mkI_cells H.out hlt
        have i0 : (0 : Int) ≤ (i : Int) := by omega
        have i1 : (i : Int) < (L.length : Int) := by omega
        go_wp2
        go_roundg (gk - 1)
        case measure => omega
        case rel => exact ⟨i + 1, by go_num, by go_num, by omega, rfl⟩
      · have he : i = L.length := by omega
        subst he
        go_wp2
        go_ret
        exact ⟨rfl, rfl⟩
end Go.Proofs.Ytodbmnbahldabaa
