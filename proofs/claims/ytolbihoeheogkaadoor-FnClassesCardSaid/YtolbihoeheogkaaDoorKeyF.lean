/- Keys of maps that are forms: what they read as; a set of forms as a map. -/
import Derived.Test.YtolbihoeheogkaaDoorOrbB
import Derived.Maps.OwnSet
import Derived.DeepKeys4
namespace Go.Proofs.YtolbihoeheogkaaDoor
open Go.ChangeShapes Go.WideShapes Go.ChangeAt Go.RowKit
open Go.Maps
set_option linter.unusedVariables false
set_option maxRecDepth 20000
theorem laidOutK : laidOutB Tryd.prog = true := by kernel_rfl
theorem wideF : (match Tryd.prog.underlying 25 with | some (.array _ _) | some (.struct _) => true | _ => false) = true := by rw [Tryd.underlying25]
theorem rowF : (25 : TypeId) < Tryd.prog.types.size := of_decide_eq_true (by kernel_rfl)
theorem keyAtF : Tryd.prog.keyTypeAt 2 25 = true := by kernel_rfl
theorem klawF : Go.WideMaps.KeyLaw Tryd.prog 25 := deep_law_laid laidOutK (m := 2) (Nat.le_of_ble_eq_true (by kernel_rfl)) rowF keyAtF wideF
theorem lawF : Keyed Tryd.prog 25 := Keyed.of_law klawF
theorem keyTypeF : Tryd.prog.keyType 25 = true := by kernel_rfl
theorem cellsF3 : Tryd.prog.cellsOf 25 = 3 := by kernel_rfl
theorem cellsI64F : Tryd.prog.cellsOf 2 = 1 := by kernel_rfl
theorem typesSize : ∃ n, Tryd.prog.types.size = n + 1 := ⟨Tryd.prog.types.size - 1, by have : 0 < Tryd.prog.types.size := of_decide_eq_true (by kernel_rfl); omega⟩
theorem keyF_some {a b c : Int} (wa : (Lit.int .i64 a).wf = true) (wb : (Lit.int .i64 b).wf = true) (wc : (Lit.int .i64 c).wf = true) : ∃ kl, keyOf Tryd.prog 25 (.agg #[.int .i64 a, .int .i64 b, .int .i64 c]) = some kl := by
  obtain ⟨n, hn⟩ := typesSize
  have hf : (Value.agg #[.int .i64 a, .int .i64 b, .int .i64 c]).formed Tryd.prog 25 = true := by simp [Value.formed, Tryd.underlying25, cellsF3]
  unfold keyOf
  rw [Tryd.underlying25]
  simp only [keyTypeF, hf, Bool.and_self, if_true, hn]
  simp [Program.keyLits, Tryd.underlying25, Tryd.underlying2, cellsF3, cellsI64F, Value.cells, wa, wb, wc]
theorem wf_f {a : Int} (h : -10000 ≤ a ∧ a ≤ 10000) : (Lit.int .i64 a).wf = true := WalkArith.wf_i64 (by omega)
/-- What a form reads as, as a key. -/
noncomputable def kF (f : Fm) : Lit := (keyOf Tryd.prog 25 (.agg #[.int .i64 f.a, .int .i64 f.b, .int .i64 f.c])).getD (.bool false)
theorem kF_spec {f : Fm} (h : vFm f = true) : keyOf Tryd.prog 25 (.agg #[.int .i64 f.a, .int .i64 f.b, .int .i64 f.c]) = some (kF f) := by
  obtain ⟨h1, h2, h3⟩ := vF_in h
  obtain ⟨k, hk⟩ := keyF_some (wf_f h1) (wf_f h2) (wf_f h3)
  unfold kF
  rw [hk]
  rfl
theorem kF_inj {f g : Fm} (h1 : vFm f = true) (h2 : vFm g = true) (he : kF f = kF g) : f = g := by
  have a := kF_spec h1
  have b := kF_spec h2
  rw [he] at a
  have := lawF.inj a b
  obtain ⟨x, y, z⟩ := f
  obtain ⟨x', y', z'⟩ := g
  simp at this
  obtain ⟨rfl, rfl, rfl⟩ := this
  rfl
/-- The map that leads the forms of a list to true. -/
noncomputable def mpD : List Fm → DataW Unit
  | [] => .map []
  | f :: M => (mpD M).put (kF f) (.lit (.bool true))
theorem mpD_isMap : ∀ M : List Fm, IsMap (mpD M)
  | [] => isMap_empty
  | f :: M => (mpD_isMap M).put _ _
theorem mpD_at (x : Fm) (hx : vFm x = true) : ∀ M : List Fm, (∀ y ∈ M, vFm y = true) → (mpD M).atKey (kF x) (.lit (.bool false)) = .lit (.bool (M.any (fun y => eqFm y x)))
  | [], _ => rfl
  | f :: M, h => by
    have ih := mpD_at x hx M (fun y hy => h y (List.mem_cons_of_mem _ hy))
    have hf := h f List.mem_cons_self
    show ((mpD M).put (kF f) _).atKey (kF x) _ = _
    rw [List.any_cons]
    cases he : eqFm f x
    · have hne : kF x ≠ kF f := fun e => by
        have e2 := kF_inj hx hf e
        rw [e2, eqFm_iff.2 rfl] at he
        cases he
      rw [atKey_put_other hne, ih]
      simp
    · have e := eqFm_iff.1 he
      subst e
      rw [atKey_put_same (mpD_isMap M) (lawF.key (kF_spec hx)) _]
      simp
theorem wpList_lookup_own_bool {H : Type} {P : Program} (w : World) {ops : Array Oper} {rest : List Oper} {o : Oper} {a : Act} {Q : Exit → Act → World → Prop}
    (hg : o.guard = none) (m x : Operand) (t : TypeId) (hop : o.op = Op.lookup t m x false)
    (k e : TypeId) (K : Keyed P k) (ht : P.underlying t = some (.map k e)) (he : P.underlying e = some .bool) (hz : (zeroValue e).run P w = .ok (.bool false) w) (b n : Nat) (D : DataW H)
    (hm : a.eval m = .map (some b)) (hown : w.ownsMap P k (plainElem P e) b n D) (key : Value) (kl : Lit) (hx : a.eval x = key) (hkey : keyOf P k key = some kl)
    (bb : Bool) (hat : D.atKey kl (.lit (.bool false)) = .lit (.bool bb))
    (hK : wpList P ops Q rest (a.put o.dst (.bool bb)) w) :
    wpList P ops Q (o :: rest) a w := by
  refine wpList_plain hg fun K' hK' => ?_
  obtain ⟨v, ps, hrun, hv⟩ := hown.lookup K ht hz (plainElem_bool he false) hkey
  have hvb : v = .bool bb := by
    rw [hat] at hv
    unfold plainElem at hv
    rw [he] at hv
    cases v <;> simp at hv
    rw [hv.1]
  subst hvb
  unfold Oper.wp
  simp [execOp, hop, hm, hx, hrun, Result.andThen]
  exact hK' _ _ hK
theorem zeroBoolF (w : World) : (zeroValue 4).run Tryd.prog w = .ok (.bool false) w := by kernel_rfl
end Go.Proofs.YtolbihoeheogkaaDoor
