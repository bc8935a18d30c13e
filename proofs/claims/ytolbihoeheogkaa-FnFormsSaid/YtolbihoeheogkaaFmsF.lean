/- The law over all reduced forms. -/
import Derived.Test.YtolbihoeheogkaaFmsE
namespace Go.Proofs.Ytolbihoeheogkaa
open Go.ChangeShapes Go.WideShapes Go.ChangeAt Go.RowKit
set_option linter.unusedVariables false
set_option maxHeartbeats 1000000
theorem alR_len (d : Int) : (alR d).length ≤ 1000000 := by
  unfold alR
  split
  · rename_i h
    have hd := codeF_zero h
    have hm := rt44 hd
    unfold allF
    have h1 := outF_len d (rt (ab d)) (2 * rt (ab d) + 1).toNat
    have h2 : (2 * rt (ab d) + 1).toNat * (2 * rt (ab d) + 1).toNat ≤ 89 * 89 := Nat.mul_le_mul (by omega) (by omega)
    omega
  · simp
/-- A list that is older than the row that is marked is kept. -/
theorem Own.aside {α : Type} {g g' : α → List Value} {k k' : Nat} {w w' w0 : World} {B B' : Nat} {T T' : TypeId} {v v' : Value} {L M : List α} (h : Own w B T k g v L) (hold : Own w0 B T k g v L) (hlt : w0.heap.size ≤ B') (h2 : Own w B' T' k' g' v' M) (hg : w.grownBy w' v'.ownBlock) : Own w' B T k g v L := by
  refine h.kept hg ?_
  cases hv : v.ownBlock with
  | none => exact .inl rfl
  | some b =>
    right
    intro e
    have h3 := hold.lt b hv
    have h4 := h2.lt b e.symm
    omega
theorem Below.marked {α : Type} {g : α → List Value} {k : Nat} {w w' w0 : World} {B : Nat} {T : TypeId} {v : Value} {M : List α} {C : Nat} (hb : Below C w0 w) (hC : C ≤ B) (hB : B ≤ w.heap.size) (h2 : Own w B T k g v M) (hg : w.grownBy w' v.ownBlock) : Below C w0 w' :=
  hb.grown hg (by omega) (fun b hb => by have := (h2.lt b hb).1; omega)
theorem walk_FnExactReducedForms (d : Int) (wd : (Lit.int .i64 d).wf = true) (w : World) :
    Calls Try.prog 9 #[.int .i64 d] w fun e' w' => e' = .returned (.bool true) ∧ Below w.heap.size w w' := by
  have hl := alR_len d
  go_enter Try.func9, Try.ntmps9
  go_wp2_with fail
  refine (sReducedForms_any _ _).mono ?_
  intro e w1 hr
  unfold RetFC at hr
  obtain ⟨v0, rfl, o0, b1⟩ := hr
  have O0 := Lib.hid o0
  have B1 := Lib.hid b1
  clear o0 b1
  go_wp2_with fail
  refine (iReducedForms_any _ _).mono ?_
  intro e w2 hr
  unfold RetFC at hr
  obtain ⟨v1, rfl, o1, b2⟩ := hr
  have O1 := Lib.hid o1
  have B2 := Lib.hid b2
  clear o1 b2
  go_wp2_with fail
  refine (eqFormS_same v1 v0 (alR d) _ _ _ O1.out (O0.out.below B2.out) hl).mono ?_
  rintro e w3 ⟨rfl, b3⟩
  have B3 := Lib.hid b3
  clear b3
  go_wp2_with fail
  refine (markFormS_any v1 (alR d) w1.heap.size _ (O1.out.below B3.out) hl).mono ?_
  rintro e w4 ⟨rfl, o2, g4⟩
  have O2 := Lib.hid o2
  have G4 := Lib.hid g4
  clear o2 g4
  go_wp2_with fail
  refine (heldFormS_any v1 (alR d) w1.heap.size _ O2.out hl).mono ?_
  rintro e w5 ⟨rfl, rfl⟩
  go_wp2_with fail
  refine (iReducedForms_any _ _).mono ?_
  intro e w6 hr
  unfold RetFC at hr
  obtain ⟨v2, rfl, o3, b6⟩ := hr
  have O3 := Lib.hid o3
  have B6 := Lib.hid b6
  clear o3 b6
  have O4 := Lib.hid ((((O0.out.below B2.out).below B3.out).aside O0.out (Nat.le_refl _) (O1.out.below B3.out) G4.out).below B6.out)
  go_wp2_with fail
  refine (eqFormS_same v2 v0 (alR d) _ _ _ O3.out O4.out hl).mono ?_
  rintro e w7 ⟨rfl, b7⟩
  have B7 := Lib.hid b7
  clear b7
  go_wp2_with fail
  refine (heldFormS_any v1 (alR d) w1.heap.size _ ((O2.out.below B6.out).below B7.out) hl).mono ?_
  rintro e w8 ⟨rfl, rfl⟩
  go_wp2_with fail
  go_ret
  refine ⟨rfl, ?_⟩
  have s1 := B1.out.size
  have s2 := B2.out.size
  have s3 := B3.out.size
  have s4 := G4.out.size
  have s6 := B6.out.size
  have c3 : Below w.heap.size w w3 := (B1.out.trans (B2.out.mono s1)).trans (B3.out.mono (by omega))
  have c4 : Below w.heap.size w w4 := Below.marked c3 s1 (by omega) (O1.out.below B3.out) G4.out
  exact (c4.trans (B6.out.mono (by omega))).trans (B7.out.mono (by omega))
end Go.Proofs.Ytolbihoeheogkaa
