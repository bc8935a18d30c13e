/- Values of bihomographic functions: both packages. -/
import Derived.Test.YtfnjboaocalidaaStateF
import Derived.Test.YtfnjboaocalidaaMemB
import Derived.Test.YtfnjboaocalidaaDoubleB
namespace Go.Proofs.Ytfnjboaocalidaa
open Go.ChangeShapes Go.WideShapes Go.ChangeAt Go.RowKit
set_option linter.unusedVariables false
set_option maxHeartbeats 8000000
set_option maxRecDepth 20000
/-- All numbers are small. -/
def smB (a b c d e f i h xn xd yn yd : Int) : Bool := inR a (-10000) 10000 && inR b (-10000) 10000 && inR c (-10000) 10000 && inR d (-10000) 10000 && inR e (-10000) 10000 && inR f (-10000) 10000 && inR i (-10000) 10000 && inR h (-10000) 10000 && inR xn (-10000) 10000 && inR xd (-10000) 10000 && inR yn (-10000) 10000 && inR yd (-10000) 10000
def datF (a b c d e f i h xn xd yn yd : Int) : Fr × Int := if vD a b c d e f i h = true ∧ vQ xn xd = true ∧ vQ yn yd = true then (if smB a b c d e f i h xn xd yn yd = true then (if e * (xn * yn) + f * (xn * yd) + i * (xd * yn) + h * (xd * yd) = 0 then (zQ, 6) else plainQ (a * (xn * yn) + b * (xn * yd) + c * (xd * yn) + d * (xd * yd)) (e * (xn * yn) + f * (xn * yd) + i * (xd * yn) + h * (xd * yd))) else (zQ, 2)) else (zQ, 1)
theorem datF_bad {a b c d e f i h xn xd yn yd : Int} (h1 : ¬ (vD a b c d e f i h = true ∧ vQ xn xd = true ∧ vQ yn yd = true)) : datF a b c d e f i h xn xd yn yd = (zQ, 1) := by unfold datF; rw [if_neg h1]
theorem datF_big {a b c d e f i h xn xd yn yd : Int} (h1 : vD a b c d e f i h = true) (h2 : vQ xn xd = true) (h3 : vQ yn yd = true) (h4 : smB a b c d e f i h xn xd yn yd = false) : datF a b c d e f i h xn xd yn yd = (zQ, 2) := by unfold datF; rw [if_pos ⟨h1, h2, h3⟩, if_neg (by rw [h4]; decide)]
theorem smB_eq (a b c d e f i h xn xd yn yd : Int) : smB a b c d e f i h xn xd yn yd = (inR a (-10000) 10000 && inR b (-10000) 10000 && inR c (-10000) 10000 && inR d (-10000) 10000 && inR e (-10000) 10000 && inR f (-10000) 10000 && inR i (-10000) 10000 && inR h (-10000) 10000 && inR xn (-10000) 10000 && inR xd (-10000) 10000 && inR yn (-10000) 10000 && inR yd (-10000) 10000) := rfl
theorem bD_small {a b c d e f i h : Int} : bD 10000 a b c d e f i h = (inR a (-10000) 10000 && inR b (-10000) 10000 && inR c (-10000) 10000 && inR d (-10000) 10000 && inR e (-10000) 10000 && inR f (-10000) 10000 && inR i (-10000) 10000 && inR h (-10000) 10000) := rfl
set_option maxRecDepth 10000 in
theorem dat_facts {a b c d e f i h xn xd yn yd : Int} (h1 : vD a b c d e f i h = true) (h2 : vQ xn xd = true) (h3 : vQ yn yd = true) (h4 : smB a b c d e f i h xn xd yn yd = true) : ∃ P1 P2 P3 P4 N M : Int,
    xn * yn = P1 ∧
    xn * yd = P2 ∧
    xd * yn = P3 ∧
    xd * yd = P4 ∧
    IntKind.i64.wrap P1 = P1 ∧
    IntKind.i64.wrap P2 = P2 ∧
    IntKind.i64.wrap P3 = P3 ∧
    IntKind.i64.wrap P4 = P4 ∧
    (-1000000000000 ≤ a * P1 ∧ a * P1 ≤ 1000000000000) ∧
    (-1000000000000 ≤ b * P2 ∧ b * P2 ≤ 1000000000000) ∧
    (-1000000000000 ≤ c * P3 ∧ c * P3 ≤ 1000000000000) ∧
    (-1000000000000 ≤ d * P4 ∧ d * P4 ≤ 1000000000000) ∧
    (-1000000000000 ≤ e * P1 ∧ e * P1 ≤ 1000000000000) ∧
    (-1000000000000 ≤ f * P2 ∧ f * P2 ≤ 1000000000000) ∧
    (-1000000000000 ≤ i * P3 ∧ i * P3 ≤ 1000000000000) ∧
    (-1000000000000 ≤ h * P4 ∧ h * P4 ≤ 1000000000000) ∧
    (-100000000 ≤ a * xn ∧ a * xn ≤ 100000000) ∧
    (-100000000 ≤ b * xn ∧ b * xn ≤ 100000000) ∧
    (-100000000 ≤ c * xd ∧ c * xd ≤ 100000000) ∧
    (-100000000 ≤ d * xd ∧ d * xd ≤ 100000000) ∧
    (-100000000 ≤ e * xn ∧ e * xn ≤ 100000000) ∧
    (-100000000 ≤ f * xn ∧ f * xn ≤ 100000000) ∧
    (-100000000 ≤ i * xd ∧ i * xd ≤ 100000000) ∧
    (-100000000 ≤ h * xd ∧ h * xd ≤ 100000000) ∧
    a * xn * yn = a * P1 ∧
    b * xn * yd = b * P2 ∧
    c * xd * yn = c * P3 ∧
    d * xd * yd = d * P4 ∧
    e * xn * yn = e * P1 ∧
    f * xn * yd = f * P2 ∧
    i * xd * yn = i * P3 ∧
    h * xd * yd = h * P4 ∧
    a * P1 + b * P2 + c * P3 + d * P4 = N ∧
    e * P1 + f * P2 + i * P3 + h * P4 = M ∧
    (-4000000000000 ≤ N ∧ N ≤ 4000000000000) ∧
    (-4000000000000 ≤ M ∧ M ≤ 4000000000000) ∧
    datF a b c d e f i h xn xd yn yd = (if M = 0 then (zQ, 6) else plainQ N M) ∧
    (-100000000 ≤ P1 ∧ P1 ≤ 100000000) ∧
    (-100000000 ≤ P2 ∧ P2 ≤ 100000000) ∧
    (-100000000 ≤ P3 ∧ P3 ≤ 100000000) ∧
    (-100000000 ≤ P4 ∧ P4 ≤ 100000000) := by
  have hs := h4
  simp only [smB, Bool.and_eq_true, inR_iff, and_assoc] at hs
  obtain ⟨la, ua, lb, ub, lc, uc, ld, ud, le, ue, lf, uf, li, ui, lh, uh, lxn, uxn, lxd, uxd, lyn, uyn, lyd, uyd⟩ := hs
  have bP1 : -100000000 ≤ xn * yn ∧ xn * yn ≤ 100000000 := by have := mul_abs (a := xn) (b := yn) (A := 10000) (B := 10000) ⟨lxn, uxn⟩ ⟨lyn, uyn⟩; omega
  have bP2 : -100000000 ≤ xn * yd ∧ xn * yd ≤ 100000000 := by have := mul_abs (a := xn) (b := yd) (A := 10000) (B := 10000) ⟨lxn, uxn⟩ ⟨lyd, uyd⟩; omega
  have bP3 : -100000000 ≤ xd * yn ∧ xd * yn ≤ 100000000 := by have := mul_abs (a := xd) (b := yn) (A := 10000) (B := 10000) ⟨lxd, uxd⟩ ⟨lyn, uyn⟩; omega
  have bP4 : -100000000 ≤ xd * yd ∧ xd * yd ≤ 100000000 := by have := mul_abs (a := xd) (b := yd) (A := 10000) (B := 10000) ⟨lxd, uxd⟩ ⟨lyd, uyd⟩; omega
  have ma : -1000000000000 ≤ a * (xn * yn) ∧ a * (xn * yn) ≤ 1000000000000 := by have := mul_abs (a := a) (b := xn * yn) (A := 10000) (B := 100000000) ⟨la, ua⟩ bP1; omega
  have na : -100000000 ≤ a * xn ∧ a * xn ≤ 100000000 := by have := mul_abs (a := a) (b := xn) (A := 10000) (B := 10000) ⟨la, ua⟩ ⟨lxn, uxn⟩; omega
  have mb : -1000000000000 ≤ b * (xn * yd) ∧ b * (xn * yd) ≤ 1000000000000 := by have := mul_abs (a := b) (b := xn * yd) (A := 10000) (B := 100000000) ⟨lb, ub⟩ bP2; omega
  have nb : -100000000 ≤ b * xn ∧ b * xn ≤ 100000000 := by have := mul_abs (a := b) (b := xn) (A := 10000) (B := 10000) ⟨lb, ub⟩ ⟨lxn, uxn⟩; omega
  have mc : -1000000000000 ≤ c * (xd * yn) ∧ c * (xd * yn) ≤ 1000000000000 := by have := mul_abs (a := c) (b := xd * yn) (A := 10000) (B := 100000000) ⟨lc, uc⟩ bP3; omega
  have nc : -100000000 ≤ c * xd ∧ c * xd ≤ 100000000 := by have := mul_abs (a := c) (b := xd) (A := 10000) (B := 10000) ⟨lc, uc⟩ ⟨lxd, uxd⟩; omega
  have md : -1000000000000 ≤ d * (xd * yd) ∧ d * (xd * yd) ≤ 1000000000000 := by have := mul_abs (a := d) (b := xd * yd) (A := 10000) (B := 100000000) ⟨ld, ud⟩ bP4; omega
  have nd : -100000000 ≤ d * xd ∧ d * xd ≤ 100000000 := by have := mul_abs (a := d) (b := xd) (A := 10000) (B := 10000) ⟨ld, ud⟩ ⟨lxd, uxd⟩; omega
  have me : -1000000000000 ≤ e * (xn * yn) ∧ e * (xn * yn) ≤ 1000000000000 := by have := mul_abs (a := e) (b := xn * yn) (A := 10000) (B := 100000000) ⟨le, ue⟩ bP1; omega
  have ne : -100000000 ≤ e * xn ∧ e * xn ≤ 100000000 := by have := mul_abs (a := e) (b := xn) (A := 10000) (B := 10000) ⟨le, ue⟩ ⟨lxn, uxn⟩; omega
  have mf : -1000000000000 ≤ f * (xn * yd) ∧ f * (xn * yd) ≤ 1000000000000 := by have := mul_abs (a := f) (b := xn * yd) (A := 10000) (B := 100000000) ⟨lf, uf⟩ bP2; omega
  have nf : -100000000 ≤ f * xn ∧ f * xn ≤ 100000000 := by have := mul_abs (a := f) (b := xn) (A := 10000) (B := 10000) ⟨lf, uf⟩ ⟨lxn, uxn⟩; omega
  have mi : -1000000000000 ≤ i * (xd * yn) ∧ i * (xd * yn) ≤ 1000000000000 := by have := mul_abs (a := i) (b := xd * yn) (A := 10000) (B := 100000000) ⟨li, ui⟩ bP3; omega
  have ni : -100000000 ≤ i * xd ∧ i * xd ≤ 100000000 := by have := mul_abs (a := i) (b := xd) (A := 10000) (B := 10000) ⟨li, ui⟩ ⟨lxd, uxd⟩; omega
  have mh : -1000000000000 ≤ h * (xd * yd) ∧ h * (xd * yd) ≤ 1000000000000 := by have := mul_abs (a := h) (b := xd * yd) (A := 10000) (B := 100000000) ⟨lh, uh⟩ bP4; omega
  have nh : -100000000 ≤ h * xd ∧ h * xd ≤ 100000000 := by have := mul_abs (a := h) (b := xd) (A := 10000) (B := 10000) ⟨lh, uh⟩ ⟨lxd, uxd⟩; omega
  exact ⟨_, _, _, _, _, _, rfl, rfl, rfl, rfl, IntWalk.i64_in _ (by omega), IntWalk.i64_in _ (by omega), IntWalk.i64_in _ (by omega), IntWalk.i64_in _ (by omega), ma, mb, mc, md, me, mf, mi, mh, na, nb, nc, nd, ne, nf, ni, nh, Int.mul_assoc .., Int.mul_assoc .., Int.mul_assoc .., Int.mul_assoc .., Int.mul_assoc .., Int.mul_assoc .., Int.mul_assoc .., Int.mul_assoc .., rfl, rfl, by omega, by omega, by unfold datF; rw [if_pos ⟨h1, h2, h3⟩, if_pos h4], bP1, bP2, bP3, bP4⟩
end Go.Proofs.Ytfnjboaocalidaa
