/- Lists of pairs of numbers that a call itself has made. -/
import Derived.Test.YtdbbjmcfpfalhaaOwnB
namespace Go.Proofs.Ytdbbjmcfpfalhaa
open Go.ChangeShapes Go.WideShapes Go.ChangeAt Go.RowKit
set_option linter.unusedVariables false
set_option maxHeartbeats 1000000
structure Pp where
  x : Int
  y : Int
def gP (f : Pp) : List Value := [.int .i64 f.x, .int .i64 f.y]
theorem gP_len (f : Pp) : (gP f).length = 2 := rfl
abbrev OwnP (w : World) (B : Nat) (v : Value) (L : List Pp) : Prop := Own w B 25 2 gP v L
theorem infoP : (Try.prog.info? 25).map (fun i => (i.zero, i.size, i.bytes)) = some (some (.agg #[.int .i64 0, .int .i64 0]), 2, 16) := by kernel_rfl
theorem OwnP.cells {w : World} {B b cap : Nat} {L : List Pp} (h : OwnP w B (.slice (some ⟨b, 0, none⟩) L.length cap) L) (i : Nat) (hi : i < L.length) :
    w.cell? ⟨b, i * 2, none⟩ = some (.int .i64 (L[i]).x) ∧ w.cell? ⟨b, i * 2 + 1, none⟩ = some (.int .i64 (L[i]).y) :=
  ⟨Own.cell gP_len h i 0 hi (by omega), Own.cell gP_len h i 1 hi (by omega)⟩
theorem two_cells (x y : Int) : ∀ u ∈ [Value.int .i64 x, Value.int .i64 y], u.oneCell' = true := by
  intro u hu
  simp at hu
  rcases hu with rfl | rfl <;> rfl
theorem appP {w' : World} {B : Nat} {v' : Value} {L : List Pp} {f : Pp} (h : w'.ownsRow B 25 2 v' (L.length + 1) (rowsOf gP L ++ [.int .i64 f.x, .int .i64 f.y])) : OwnP w' B v' (L ++ [f]) := Own.more (x := f) h
theorem eqPellPair_same (a b : Int) (w : World) :
    Calls Try.prog 29 #[.agg #[.int .i64 a, .int .i64 b], .agg #[.int .i64 a, .int .i64 b]] w fun e w' => e = .returned (.bool true) ∧ Below w.heap.size w w' := by
  go_enter Try.func29, Try.ntmps29
  go_wp2
  go_returns
  exact ⟨rfl, (by repeat' (first | (with_reducible exact Below.refl _ _) | (with_reducible assumption) | (with_reducible refine Below.setCell ?_ ?_ _) | (with_reducible refine Below.alloc ?_ ?_ _) | (with_reducible refine Below.drew ?_) | (with_reducible refine below_drewN ?_ _) | (with_reducible refine Below.trans ?_ (Below.mono (by with_reducible assumption) ?_)) | go_size | (simp at *; omega)))⟩
theorem eqPellPairS_same (v1 v2 : Value) (L : List Pp) (B1 B2 : Nat) (w : World) (h1 : OwnP w B1 v1 L) (h2 : OwnP w B2 v2 L) (hl : L.length ≤ 1000000) :
    Calls Try.prog 22 #[v1, v2] w fun e w' => e = .returned (.bool true) ∧ Below w.heap.size w w' := by
  rcases h1.shape with ⟨rfl, ao, c1, rfl⟩ | ⟨hp, b, c1, rfl, _, hb, _⟩
  · obtain ⟨bo, c2, rfl⟩ := h2.len
    go_enter Try.func22, Try.ntmps22
    go_wp2
    go_loopg [5] 1 (fun k u wr => u = .int .i64 0 ∧ w = wr)
    case atStart => exact ⟨rfl, rfl⟩
    case round =>
      obtain ⟨rfl, rfl⟩ := hrel
      go_wp2
      go_ret
      exact ⟨rfl, (by repeat' (first | (with_reducible exact Below.refl _ _) | (with_reducible assumption) | (with_reducible refine Below.setCell ?_ ?_ _) | (with_reducible refine Below.alloc ?_ ?_ _) | (with_reducible refine Below.drew ?_) | (with_reducible refine below_drewN ?_ _) | (with_reducible refine Below.trans ?_ (Below.mono (by with_reducible assumption) ?_)) | go_size | (simp at *; omega)))⟩
  · rcases h2.shape with ⟨rfl, _⟩ | ⟨hp2, b2, c2, rfl, _, hb2, _⟩
    · simp at hp
    · have H1 := Lib.hid h1
      have H2 := Lib.hid h2
      clear h1 h2
      go_enter Try.func22, Try.ntmps22
      go_wp2
      go_loopg [5] L.length (fun k u wr => ∃ i : Nat, u = .int .i64 i ∧ i + k = L.length ∧ Below w.heap.size w wr)
      case atStart => exact ⟨0, rfl, by omega, Below.refl _ _⟩
      case round =>
        obtain ⟨i, rfl, hi, hbel⟩ := hrel
        by_cases hlt : i < L.length
        · have hsz := hbel.size
          obtain ⟨x1, x2⟩ := OwnP.cells (H1.out.below hbel) i hlt
          obtain ⟨y1, y2⟩ := OwnP.cells (H2.out.below hbel) i hlt
          go_wp2
          have i0 : (0 : Int) ≤ (i : Int) := by omega
          have i1 : (i : Int) < (L.length : Int) := by omega
          go_region_with (go_at_call 29; refine (eqPellPair_same _ _ _).mono ?_; rintro e w1 ⟨rfl, hb1⟩; obtain ⟨hc1, hf1, hl1, hB1⟩ := bcell hb1; have hz1 := hb1.size; (try simp at hz1); (try have hk0 : w.heap.size < w1.heap.size := by omega); (try have hk1 : w.heap.size + 1 < w1.heap.size := by omega); (try have hk2 : w.heap.size + 1 + 1 < w1.heap.size := by omega))
          all_goals
            go_wp2_with fail
            go_roundg (gk - 1)
            case measure => omega
            case rel => exact ⟨i + 1, by go_num, by omega, (by repeat' (first | (with_reducible exact Below.refl _ _) | (with_reducible assumption) | (with_reducible refine Below.setCell ?_ ?_ _) | (with_reducible refine Below.alloc ?_ ?_ _) | (with_reducible refine Below.drew ?_) | (with_reducible refine below_drewN ?_ _) | (with_reducible refine Below.trans ?_ (Below.mono (by with_reducible assumption) ?_)) | go_size | (simp at *; omega)))⟩
        · go_wp2
          go_ret
          exact ⟨rfl, (by repeat' (first | (with_reducible exact Below.refl _ _) | (with_reducible assumption) | (with_reducible refine Below.setCell ?_ ?_ _) | (with_reducible refine Below.alloc ?_ ?_ _) | (with_reducible refine Below.drew ?_) | (with_reducible refine below_drewN ?_ _) | (with_reducible refine Below.trans ?_ (Below.mono (by with_reducible assumption) ?_)) | go_size | (simp at *; omega)))⟩
/-- The marks that the law lays on a list of pairs. -/
def mkP (k : Nat) (L : List Pp) : Nat → List Pp
  | 0 => L
  | i + 1 => (mkP k L i).set i ⟨k + 2 * i, k + 2 * i + 1⟩
theorem mkP_len (k : Nat) (L : List Pp) (i : Nat) : (mkP k L i).length = L.length := by
  induction i with
  | zero => rfl
  | succ i ih => unfold mkP; rw [List.length_set, ih]
theorem mkP_get (k : Nat) (L : List Pp) : ∀ (i j : Nat), j < i → i ≤ L.length → (mkP k L i)[j]? = some ⟨k + 2 * j, k + 2 * j + 1⟩ := by
  intro i
  induction i with
  | zero => intro j h; omega
  | succ i ih =>
    intro j h h2
    unfold mkP
    rcases Nat.lt_or_ge j i with h3 | h3
    · rw [List.getElem?_set_ne (by omega)]
      exact ih j h3 (by omega)
    · have : j = i := by omega
      subst this
      rw [List.getElem?_set_self (by rw [mkP_len]; omega)]
theorem rows_setP (L : List Pp) : ∀ (i : Nat) (x y : Int), i < L.length → ((rowsOf gP L).set (i * 2) (.int .i64 x)).set (i * 2 + 1) (.int .i64 y) = rowsOf gP (L.set i ⟨x, y⟩) := by
  induction L with
  | nil => intro i x y h; simp at h
  | cons f L ih =>
    intro i x y h
    have e : ∀ M : List Pp, ∀ f, rowsOf gP (f :: M) = .int .i64 f.x :: .int .i64 f.y :: rowsOf gP M := fun M f => by simp [rowsOf, gP]
    cases i with
    | zero => rw [List.set_cons_zero, e, e]; rfl
    | succ i =>
      rw [List.set_cons_succ, e, e, ← ih i x y (by simpa using h)]
      have e1 : (i + 1) * 2 = i * 2 + 1 + 1 := by omega
      rw [e1]
      rfl
theorem markP2 {w : World} {B b cap n : Nat} {L : List Pp} (h : OwnP w B (.slice (some ⟨b, 0, none⟩) n cap) L) (hn : L.length = n) {i : Nat} (hi : i < n) (x y : Int) :
    OwnP ((w.setCell ⟨b, i * 2, none⟩ (.int .i64 x)).setCell ⟨b, i * 2 + 1, none⟩ (.int .i64 y)) B (.slice (some ⟨b, 0, none⟩) n cap) (L.set i ⟨x, y⟩) ∧
    w.grownBy ((w.setCell ⟨b, i * 2, none⟩ (.int .i64 x)).setCell ⟨b, i * 2 + 1, none⟩ (.int .i64 y)) (some b) := by
  subst hn
  obtain ⟨h1, g1⟩ := World.ownsRow.stored h (i * 2) (.int .i64 x)
  obtain ⟨h2, g2⟩ := World.ownsRow.stored h1 (i * 2 + 1) (.int .i64 y)
  refine ⟨?_, gtr g1 g2⟩
  unfold OwnP Own
  rw [List.length_set, ← rows_setP L i x y hi]
  exact h2
theorem ownP_two {w : World} {B b cap n : Nat} {L : List Pp} (h : OwnP w B (.slice (some ⟨b, 0, none⟩) n cap) L) (hn : L.length = n) {i : Nat} (hi : i < n) :
    ∃ x y : Value, w.cell? ⟨b, i * 2, none⟩ = some x ∧ w.cell? ⟨b, i * 2 + 1, none⟩ = some y ∧ w.frozen? ⟨b, i * 2, none⟩ = false ∧ w.frozen? ⟨b, i * 2 + 1, none⟩ = false := by
  subst hn
  obtain ⟨h1, h2⟩ := OwnP.cells h i hi
  exact ⟨_, _, h1, h2, Own.free h _, Own.free h _⟩
theorem markPellPairS_any (v : Value) (L : List Pp) (B : Nat) (w : World) (h : OwnP w B v L) (hl : L.length ≤ 1000000) :
    Calls Try.prog 23 #[v, .int .i64 1] w fun e w' => e = .returned (.int .i64 (1 + 2 * (L.length : Int))) ∧ OwnP w' B v (mkP 1 L L.length) ∧ w.grownBy w' v.ownBlock := by
  rcases h.shape with ⟨rfl, ao, c1, rfl⟩ | ⟨hp, b, c1, rfl, _, hb, _⟩
  · have H := Lib.hid h
    clear h
    go_enter Try.func23, Try.ntmps23
    go_wp2
    go_loopg [1, 5] 1 (fun k s u wr => s = .int .i64 1 ∧ u = .int .i64 0 ∧ w = wr)
    case atStart => exact ⟨rfl, rfl, rfl⟩
    case round =>
      obtain ⟨rfl, rfl, rfl⟩ := hrel
      go_wp2
      go_ret
      exact ⟨rfl, H.out, World.grownBy.refl _ _⟩
  · have H := Lib.hid h
    clear h
    go_enter Try.func23, Try.ntmps23
    go_wp2
    go_loopg [1, 5] L.length (fun k s u wr => ∃ i : Nat, s = .int .i64 (1 + 2 * (i : Int)) ∧ u = .int .i64 i ∧ i + k = L.length ∧ Hid (OwnP wr B (.slice (some ⟨b, 0, none⟩) L.length c1) (mkP 1 L i)) ∧ Hid (w.grownBy wr (some b)))
    case atStart => exact ⟨0, rfl, rfl, by omega, H, Lib.hid (World.grownBy.refl _ _)⟩
    case round =>
      obtain ⟨i, rfl, rfl, hi, HO, HG⟩ := hrel
      by_cases hlt : i < L.length
      · obtain ⟨x, y, x1, x2, f1, f2⟩ := ownP_two HO.out (mkP_len 1 L i) hlt
        have i0 : (0 : Int) ≤ (i : Int) := by omega
        have i1 : (i : Int) < (L.length : Int) := by omega
        go_wp2
        go_roundg (gk - 1)
        case measure => omega
        case rel => exact ⟨i + 1, by go_num, by go_num, by omega, Lib.hid (markP2 HO.out (mkP_len 1 L i) hlt _ _).1, Lib.hid (gtr HG.out (markP2 HO.out (mkP_len 1 L i) hlt _ _).2)⟩
      · have he : i = L.length := by omega
        subst he
        go_wp2
        go_ret
        exact ⟨rfl, HO.out, HG.out⟩
theorem mkP_cells {w : World} {B b cap : Nat} {L : List Pp} (h : OwnP w B (.slice (some ⟨b, 0, none⟩) L.length cap) (mkP 1 L L.length)) {i : Nat} (hi : i < L.length) :
    w.cell? ⟨b, i * 2, none⟩ = some (.int .i64 (1 + 2 * (i : Int))) ∧ w.cell? ⟨b, i * 2 + 1, none⟩ = some (.int .i64 (1 + 2 * (i : Int) + 1)) := by
  have e := mkP_len 1 L L.length
  have q := mkP_get 1 L L.length i hi (Nat.le_refl _)
  generalize mkP 1 L L.length = M at *
  rw [← e] at h
  have him : i < M.length := by omega
  have c := OwnP.cells h i him
  rw [List.getElem?_eq_getElem him] at q
  have q2 := Option.some.inj q
  rw [q2] at c
  exact c
theorem heldPellPairS_any (v : Value) (L : List Pp) (B : Nat) (w : World) (h : OwnP w B v (mkP 1 L L.length)) (hl : L.length ≤ 1000000) :
    Calls Try.prog 24 #[v, .int .i64 1] w fun e w' => e = .returned (.int .i64 (1 + 2 * (L.length : Int))) ∧ w = w' := by
  have hlen := mkP_len 1 L L.length
  rcases h.shape with ⟨h0, ao, c1, rfl⟩ | ⟨hp, b, c1, rfl, _, hb, _⟩
  · have h1 : L.length = 0 := by rw [← hlen, h0]; rfl
    have H := Lib.hid h1
    clear h h0 hlen h1
    go_enter Try.func24, Try.ntmps24
    go_wp2
    go_loopg [1, 5] 1 (fun k s u wr => s = .int .i64 1 ∧ u = .int .i64 0 ∧ w = wr)
    case atStart => exact ⟨rfl, rfl, rfl⟩
    case round =>
      obtain ⟨rfl, rfl, rfl⟩ := hrel
      go_wp2
      go_ret
      exact ⟨ret_int (by rw [H.out]; rfl), rfl⟩
  · rw [hlen] at h hp ⊢
    have H := Lib.hid h
    clear h hlen
    go_enter Try.func24, Try.ntmps24
    go_wp2
    go_loopg [1, 5] L.length (fun k s u wr => ∃ i : Nat, s = .int .i64 (1 + 2 * (i : Int)) ∧ u = .int .i64 i ∧ i + k = L.length ∧ w = wr)
    case atStart => exact ⟨0, rfl, rfl, by omega, rfl⟩
    case round =>
      obtain ⟨i, rfl, rfl, hi, rfl⟩ := hrel
      by_cases hlt : i < L.length
      · obtain ⟨x1, x2⟩ := mkP_cells H.out hlt
        have i0 : (0 : Int) ≤ (i : Int) := by omega
        have i1 : (i : Int) < (L.length : Int) := by omega
        go_wp2
        go_roundg (gk - 1)
        case measure => omega
        case rel => exact ⟨i + 1, by go_num, by go_num, by omega, rfl⟩
      · have he : i = L.length := by omega
        subst he
        go_wp2
        go_ret
        exact ⟨rfl, rfl⟩
end Go.Proofs.Ytdbbjmcfpfalhaa
