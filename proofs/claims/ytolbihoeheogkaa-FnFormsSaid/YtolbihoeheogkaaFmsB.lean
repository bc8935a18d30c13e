/- Lists of forms: the marks are held; what an append leaves. -/
import Derived.Test.YtolbihoeheogkaaFms
namespace Go.Proofs.Ytolbihoeheogkaa
open Go.ChangeShapes Go.WideShapes Go.ChangeAt Go.RowKit
set_option linter.unusedVariables false
set_option maxHeartbeats 1000000
theorem mkF_cells {w : World} {B b cap : Nat} {L : List Fm} (h : OwnF w B (.slice (some ⟨b, 0, none⟩) L.length cap) (mkF 1 L L.length)) {i : Nat} (hi : i < L.length) :
    w.cell? ⟨b, i * 3, none⟩ = some (.int .i64 (1 + 3 * (i : Int))) ∧ w.cell? ⟨b, i * 3 + 1, none⟩ = some (.int .i64 (1 + 3 * (i : Int) + 1)) ∧ w.cell? ⟨b, i * 3 + 2, none⟩ = some (.int .i64 (1 + 3 * (i : Int) + 2)) := by
  have e := mkF_len 1 L L.length
  have q := mkF_get 1 L L.length i hi (Nat.le_refl _)
  generalize mkF 1 L L.length = M at *
  rw [← e] at h
  have him : i < M.length := by omega
  have c := OwnF.cells h i him
  rw [List.getElem?_eq_getElem him] at q
  have q2 := Option.some.inj q
  rw [q2] at c
  exact c
theorem heldFormS_any (v : Value) (L : List Fm) (B : Nat) (w : World) (h : OwnF w B v (mkF 1 L L.length)) (hl : L.length ≤ 1000000) :
    Calls Try.prog 32 #[v, .int .i64 1] w fun e w' => e = .returned (.int .i64 (1 + 3 * (L.length : Int))) ∧ w = w' := by
  have hlen := mkF_len 1 L L.length
  rcases h.shape with ⟨h0, ao, c1, rfl⟩ | ⟨hp, b, c1, rfl, _, hb, _⟩
  · have h1 : L.length = 0 := by rw [← hlen, h0]; rfl
    have H := Lib.hid h1
    clear h h0 hlen h1
    go_enter Try.func32, Try.ntmps32
    go_wp2
    go_loopg [1, 5] 1 (fun k s u wr => s = .int .i64 1 ∧ u = .int .i64 0 ∧ w = wr)
    case atStart => exact ⟨rfl, rfl, rfl⟩
    case round =>
      obtain ⟨rfl, rfl, rfl⟩ := hrel
      go_wp2
      go_ret
      exact ⟨ret_int (by rw [H.out]; rfl), rfl⟩
  · rw [hlen] at h hp ⊢
    have H := Lib.hid h
    clear h hlen
    go_enter Try.func32, Try.ntmps32
    go_wp2
    go_loopg [1, 5] L.length (fun k s u wr => ∃ i : Nat, s = .int .i64 (1 + 3 * (i : Int)) ∧ u = .int .i64 i ∧ i + k = L.length ∧ w = wr)
    case atStart => exact ⟨0, rfl, rfl, by omega, rfl⟩
    case round =>
      obtain ⟨i, rfl, rfl, hi, rfl⟩ := hrel
      by_cases hlt : i < L.length
      · obtain ⟨x1, x2, x3⟩ := mkF_cells H.out hlt
        have i0 : (0 : Int) ≤ (i : Int) := by omega
        have i1 : (i : Int) < (L.length : Int) := by omega
        go_wp2
        go_roundg (gk - 1)
        case measure => omega
        case rel => exact ⟨i + 1, by go_num, by go_num, by omega, rfl⟩
      · have he : i = L.length := by omega
        subst he
        go_wp2
        go_ret
        exact ⟨rfl, rfl⟩
end Go.Proofs.Ytolbihoeheogkaa
