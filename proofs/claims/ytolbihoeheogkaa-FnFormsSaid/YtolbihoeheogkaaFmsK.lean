/- Equivalent forms: both packages. -/
import Derived.Test.YtolbihoeheogkaaFmsJ
namespace Go.Proofs.Ytolbihoeheogkaa
open Go.ChangeShapes Go.WideShapes Go.ChangeAt Go.RowKit
set_option linter.unusedVariables false
set_option maxHeartbeats 1000000
def dFm (f : Fm) : Int := dF f.a f.b f.c
theorem dFm_stp {f : Fm} (h : vFm f = true) : dFm (stp f) = dFm f := by
  obtain ⟨a1, b1, c1⟩ := vF_in h
  exact step_disc a1 b1 c1 (vF_c h)
theorem cyF_disc (f : Fm) (D : Int) : ∀ (k : Nat) (x : Fm) (L M : List Fm), cyF f k x L = some M → dFm x = D → (∀ z ∈ L, dFm z = D) → ∀ z ∈ M, dFm z = D := by
  intro k
  induction k with
  | zero => intro x L M h; simp [cyF] at h
  | succ k ih =>
    intro x L M h hx hL
    unfold cyF at h
    split at h
    · cases h; exact hL
    · split at h
      · rename_i hv
        refine ih _ _ _ h (by rw [dFm_stp hv]; exact hx) ?_
        intro z hz
        rcases List.mem_append.1 hz with h1 | h1
        · exact hL z h1
        · rw [List.mem_singleton.1 h1]; exact hx
      · cases h
theorem cyR_disc {f : Fm} {M : List Fm} (hv : vFm f = true) (h : cyR f = some M) : ∀ z ∈ M, dFm z = dFm f := by
  unfold cyR at h
  split at h
  · cases h; intro z hz; rw [List.mem_singleton.1 hz]
  · exact cyF_disc f _ _ _ _ _ h (dFm_stp hv) (fun z hz => by rw [List.mem_singleton.1 hz])
theorem cyF_head (f y : Fm) : ∀ (k : Nat) (x : Fm) (L M : List Fm), cyF f k x (y :: L) = some M → M[0]? = some y := by
  intro k
  induction k with
  | zero => intro x L M h; simp [cyF] at h
  | succ k ih =>
    intro x L M h
    unfold cyF at h
    split at h
    · cases h; rfl
    · split at h
      · exact ih _ _ _ h
      · cases h
theorem cyR_head {f : Fm} {M : List Fm} (h : cyR f = some M) : M[0]? = some f := by
  unfold cyR at h
  split at h
  · cases h; rfl
  · exact cyF_head f f _ _ _ _ h
theorem fi_no {f : Fm} : ∀ (L : List Fm) (i : Int), (∀ z ∈ L, z ≠ f) → fiF f L i = -1 := by
  intro L
  induction L with
  | nil => intro i _; rfl
  | cons x L ih =>
    intro i h
    unfold fiF
    rw [if_neg (fun e => h x (List.mem_cons_self) (eqFm_iff.1 e))]
    exact ih _ (fun z hz => h z (List.mem_cons_of_mem _ hz))
theorem fi_ge {f : Fm} : ∀ (L : List Fm) (i : Int), fiF f L i = -1 ∨ i ≤ fiF f L i := by
  intro L
  induction L with
  | nil => intro i; exact .inl rfl
  | cons x L ih =>
    intro i
    unfold fiF
    split
    · right; omega
    · have := ih (i + 1)
      omega
def eqvC (x : Fm) : Option (List Fm) → Option (List Fm) → Bool × Int
  | some _, some M => (decide (0 ≤ fiF x M 0), 0)
  | _, _ => (false, 5)
/-- Are two forms equivalent, and the code. -/
def eqvR (a b c x y z : Int) : Bool × Int :=
  if (vF a b c && vF x y z) = true then (if ((rdR a b c).2.2 && (rdR x y z).2.2) = true then eqvC (rdR a b c).1 (cyR (rdR a b c).1) (cyR (rdR x y z).1) else (false, 5)) else (false, 1)
theorem RetFO_is {w w' : World} {o : Option (List Fm)} {e : Ending} (h : RetFO w o e w') : ∃ v, e = .returned (.tuple #[v, .bool o.isSome]) ∧ (∀ L, o = some L → OwnF w' w.heap.size v L) ∧ Below w.heap.size w w' := by
  rcases h with ⟨L, v, rfl, rfl, h1, h2⟩ | ⟨rfl, rfl, h2⟩
  · exact ⟨v, rfl, (fun M hM => by cases hM; exact h1), h2⟩
  · exact ⟨_, rfl, (fun M hM => by cases hM), h2⟩
theorem sEquivalentForms_any (a b c x y z : Int) (w : World) :
    Calls Try.prog 35 #[.agg #[.int .i64 a, .int .i64 b, .int .i64 c], .agg #[.int .i64 x, .int .i64 y, .int .i64 z]] w fun e w' => e = .returned (.tuple #[.bool (eqvR a b c x y z).1, .int .i64 (eqvR a b c x y z).2]) ∧ Below w.heap.size w w' := by
  cases hv : vF a b c
  · have HF : Hid (eqvR a b c x y z = (false, 1)) := Lib.hid (by simp [eqvR, hv])
    go_enter Try.func35, Try.ntmps35
    go_wp2_with fail; refine (l11Ok_any _ _ _ _).mono ?_; rintro e w1 ⟨rfl, hb1⟩; obtain ⟨hc1, hf1, -, hB1⟩ := bcell hb1; have hz1 := hb1.size; (try simp at hz1); (try have hk1_0 : w.heap.size < w1.heap.size := by omega); (try have hk1_1 : w.heap.size + 1 < w1.heap.size := by omega); (try have hk1_2 : w.heap.size + 1 + 1 < w1.heap.size := by omega); (try have hk1_3 : w.heap.size + 1 + 1 + 1 < w1.heap.size := by omega); (try have hk1_4 : wr.heap.size < w1.heap.size := by omega); (try have hk1_5 : wr.heap.size + 1 < w1.heap.size := by omega)
    go_wp2_with fail
    go_ret2
    exact ⟨by rw [HF.out]; rfl, (by repeat' (first | (with_reducible exact Below.refl _ _) | (with_reducible assumption) | (with_reducible refine Below.setCell ?_ ?_ _) | (with_reducible refine Below.alloc ?_ ?_ _) | (with_reducible refine Below.drew ?_) | (with_reducible refine below_drewN ?_ _) | (with_reducible refine Below.trans ?_ (Below.mono (by with_reducible assumption) ?_)) | go_size | (simp at *; omega)))⟩
  · cases hu : vF x y z
    · have HF : Hid (eqvR a b c x y z = (false, 1)) := Lib.hid (by simp [eqvR, hv, hu])
      go_enter Try.func35, Try.ntmps35
      go_wp2_with fail; refine (l11Ok_any _ _ _ _).mono ?_; rintro e w1 ⟨rfl, hb1⟩; obtain ⟨hc1, hf1, -, hB1⟩ := bcell hb1; have hz1 := hb1.size; (try simp at hz1); (try have hk1_0 : w.heap.size < w1.heap.size := by omega); (try have hk1_1 : w.heap.size + 1 < w1.heap.size := by omega); (try have hk1_2 : w.heap.size + 1 + 1 < w1.heap.size := by omega); (try have hk1_3 : w.heap.size + 1 + 1 + 1 < w1.heap.size := by omega); (try have hk1_4 : wr.heap.size < w1.heap.size := by omega); (try have hk1_5 : wr.heap.size + 1 < w1.heap.size := by omega)
      go_wp2_with fail; refine (l11Ok_any _ _ _ _).mono ?_; rintro e w2 ⟨rfl, hb2⟩; obtain ⟨hc2, hf2, -, hB2⟩ := bcell hb2; have hz2 := hb2.size; (try simp at hz2); (try have hk2_0 : w.heap.size < w2.heap.size := by omega); (try have hk2_1 : w.heap.size + 1 < w2.heap.size := by omega); (try have hk2_2 : w.heap.size + 1 + 1 < w2.heap.size := by omega); (try have hk2_3 : w.heap.size + 1 + 1 + 1 < w2.heap.size := by omega); (try have hk2_4 : wr.heap.size < w2.heap.size := by omega); (try have hk2_5 : wr.heap.size + 1 < w2.heap.size := by omega); (try have hk2_6 : w1.heap.size < w2.heap.size := by omega); (try have hk2_7 : w1.heap.size + 1 < w2.heap.size := by omega)
      go_wp2_with fail
      go_ret2
      exact ⟨by rw [HF.out]; rfl, (by repeat' (first | (with_reducible exact Below.refl _ _) | (with_reducible assumption) | (with_reducible refine Below.setCell ?_ ?_ _) | (with_reducible refine Below.alloc ?_ ?_ _) | (with_reducible refine Below.drew ?_) | (with_reducible refine below_drewN ?_ _) | (with_reducible refine Below.trans ?_ (Below.mono (by with_reducible assumption) ?_)) | go_size | (simp at *; omega)))⟩
    · have HV := Lib.hid hv
      have HU := Lib.hid hu
      cases h1 : (rdR a b c).2.2
      · have HF : Hid (eqvR a b c x y z = (false, 5)) := Lib.hid (by simp [eqvR, hv, hu, h1])
        go_enter Try.func35, Try.ntmps35
        go_wp2_with fail; refine (l11Ok_any _ _ _ _).mono ?_; rintro e w1 ⟨rfl, hb1⟩; obtain ⟨hc1, hf1, -, hB1⟩ := bcell hb1; have hz1 := hb1.size; (try simp at hz1); (try have hk1_0 : w.heap.size < w1.heap.size := by omega); (try have hk1_1 : w.heap.size + 1 < w1.heap.size := by omega); (try have hk1_2 : w.heap.size + 1 + 1 < w1.heap.size := by omega); (try have hk1_3 : w.heap.size + 1 + 1 + 1 < w1.heap.size := by omega); (try have hk1_4 : wr.heap.size < w1.heap.size := by omega); (try have hk1_5 : wr.heap.size + 1 < w1.heap.size := by omega)
        go_wp2_with fail; refine (l11Ok_any _ _ _ _).mono ?_; rintro e w2 ⟨rfl, hb2⟩; obtain ⟨hc2, hf2, -, hB2⟩ := bcell hb2; have hz2 := hb2.size; (try simp at hz2); (try have hk2_0 : w.heap.size < w2.heap.size := by omega); (try have hk2_1 : w.heap.size + 1 < w2.heap.size := by omega); (try have hk2_2 : w.heap.size + 1 + 1 < w2.heap.size := by omega); (try have hk2_3 : w.heap.size + 1 + 1 + 1 < w2.heap.size := by omega); (try have hk2_4 : wr.heap.size < w2.heap.size := by omega); (try have hk2_5 : wr.heap.size + 1 < w2.heap.size := by omega); (try have hk2_6 : w1.heap.size < w2.heap.size := by omega); (try have hk2_7 : w1.heap.size + 1 < w2.heap.size := by omega)
        go_wp2_with fail; refine (l11Reduce_any _ _ _ _ HV.out).mono ?_; rintro e w3 ⟨rfl, hb3⟩; obtain ⟨hc3, hf3, -, hB3⟩ := bcell hb3; have hz3 := hb3.size; (try simp at hz3); (try have hk3_0 : w.heap.size < w3.heap.size := by omega); (try have hk3_1 : w.heap.size + 1 < w3.heap.size := by omega); (try have hk3_2 : w.heap.size + 1 + 1 < w3.heap.size := by omega); (try have hk3_3 : w.heap.size + 1 + 1 + 1 < w3.heap.size := by omega); (try have hk3_4 : wr.heap.size < w3.heap.size := by omega); (try have hk3_5 : wr.heap.size + 1 < w3.heap.size := by omega); (try have hk3_6 : w1.heap.size < w3.heap.size := by omega); (try have hk3_7 : w1.heap.size + 1 < w3.heap.size := by omega); (try have hk3_8 : w2.heap.size < w3.heap.size := by omega); (try have hk3_9 : w2.heap.size + 1 < w3.heap.size := by omega)
        go_wp2_with fail; refine (l11Reduce_any _ _ _ _ HU.out).mono ?_; rintro e w4 ⟨rfl, hb4⟩; obtain ⟨hc4, hf4, -, hB4⟩ := bcell hb4; have hz4 := hb4.size; (try simp at hz4); (try have hk4_0 : w.heap.size < w4.heap.size := by omega); (try have hk4_1 : w.heap.size + 1 < w4.heap.size := by omega); (try have hk4_2 : w.heap.size + 1 + 1 < w4.heap.size := by omega); (try have hk4_3 : w.heap.size + 1 + 1 + 1 < w4.heap.size := by omega); (try have hk4_4 : wr.heap.size < w4.heap.size := by omega); (try have hk4_5 : wr.heap.size + 1 < w4.heap.size := by omega); (try have hk4_6 : w1.heap.size < w4.heap.size := by omega); (try have hk4_7 : w1.heap.size + 1 < w4.heap.size := by omega); (try have hk4_8 : w2.heap.size < w4.heap.size := by omega); (try have hk4_9 : w2.heap.size + 1 < w4.heap.size := by omega); (try have hk4_10 : w3.heap.size < w4.heap.size := by omega); (try have hk4_11 : w3.heap.size + 1 < w4.heap.size := by omega)
        go_wp2_with fail
        go_ret2
        exact ⟨by rw [HF.out]; rfl, (by repeat' (first | (with_reducible exact Below.refl _ _) | (with_reducible assumption) | (with_reducible refine Below.setCell ?_ ?_ _) | (with_reducible refine Below.alloc ?_ ?_ _) | (with_reducible refine Below.drew ?_) | (with_reducible refine below_drewN ?_ _) | (with_reducible refine Below.trans ?_ (Below.mono (by with_reducible assumption) ?_)) | go_size | (simp at *; omega)))⟩
      · cases h2 : (rdR x y z).2.2
        · have HF : Hid (eqvR a b c x y z = (false, 5)) := Lib.hid (by simp [eqvR, hv, hu, h1, h2])
          go_enter Try.func35, Try.ntmps35
          go_wp2_with fail; refine (l11Ok_any _ _ _ _).mono ?_; rintro e w1 ⟨rfl, hb1⟩; obtain ⟨hc1, hf1, -, hB1⟩ := bcell hb1; have hz1 := hb1.size; (try simp at hz1); (try have hk1_0 : w.heap.size < w1.heap.size := by omega); (try have hk1_1 : w.heap.size + 1 < w1.heap.size := by omega); (try have hk1_2 : w.heap.size + 1 + 1 < w1.heap.size := by omega); (try have hk1_3 : w.heap.size + 1 + 1 + 1 < w1.heap.size := by omega); (try have hk1_4 : wr.heap.size < w1.heap.size := by omega); (try have hk1_5 : wr.heap.size + 1 < w1.heap.size := by omega)
          go_wp2_with fail; refine (l11Ok_any _ _ _ _).mono ?_; rintro e w2 ⟨rfl, hb2⟩; obtain ⟨hc2, hf2, -, hB2⟩ := bcell hb2; have hz2 := hb2.size; (try simp at hz2); (try have hk2_0 : w.heap.size < w2.heap.size := by omega); (try have hk2_1 : w.heap.size + 1 < w2.heap.size := by omega); (try have hk2_2 : w.heap.size + 1 + 1 < w2.heap.size := by omega); (try have hk2_3 : w.heap.size + 1 + 1 + 1 < w2.heap.size := by omega); (try have hk2_4 : wr.heap.size < w2.heap.size := by omega); (try have hk2_5 : wr.heap.size + 1 < w2.heap.size := by omega); (try have hk2_6 : w1.heap.size < w2.heap.size := by omega); (try have hk2_7 : w1.heap.size + 1 < w2.heap.size := by omega)
          go_wp2_with fail; refine (l11Reduce_any _ _ _ _ HV.out).mono ?_; rintro e w3 ⟨rfl, hb3⟩; obtain ⟨hc3, hf3, -, hB3⟩ := bcell hb3; have hz3 := hb3.size; (try simp at hz3); (try have hk3_0 : w.heap.size < w3.heap.size := by omega); (try have hk3_1 : w.heap.size + 1 < w3.heap.size := by omega); (try have hk3_2 : w.heap.size + 1 + 1 < w3.heap.size := by omega); (try have hk3_3 : w.heap.size + 1 + 1 + 1 < w3.heap.size := by omega); (try have hk3_4 : wr.heap.size < w3.heap.size := by omega); (try have hk3_5 : wr.heap.size + 1 < w3.heap.size := by omega); (try have hk3_6 : w1.heap.size < w3.heap.size := by omega); (try have hk3_7 : w1.heap.size + 1 < w3.heap.size := by omega); (try have hk3_8 : w2.heap.size < w3.heap.size := by omega); (try have hk3_9 : w2.heap.size + 1 < w3.heap.size := by omega)
          go_wp2_with fail; refine (l11Reduce_any _ _ _ _ HU.out).mono ?_; rintro e w4 ⟨rfl, hb4⟩; obtain ⟨hc4, hf4, -, hB4⟩ := bcell hb4; have hz4 := hb4.size; (try simp at hz4); (try have hk4_0 : w.heap.size < w4.heap.size := by omega); (try have hk4_1 : w.heap.size + 1 < w4.heap.size := by omega); (try have hk4_2 : w.heap.size + 1 + 1 < w4.heap.size := by omega); (try have hk4_3 : w.heap.size + 1 + 1 + 1 < w4.heap.size := by omega); (try have hk4_4 : wr.heap.size < w4.heap.size := by omega); (try have hk4_5 : wr.heap.size + 1 < w4.heap.size := by omega); (try have hk4_6 : w1.heap.size < w4.heap.size := by omega); (try have hk4_7 : w1.heap.size + 1 < w4.heap.size := by omega); (try have hk4_8 : w2.heap.size < w4.heap.size := by omega); (try have hk4_9 : w2.heap.size + 1 < w4.heap.size := by omega); (try have hk4_10 : w3.heap.size < w4.heap.size := by omega); (try have hk4_11 : w3.heap.size + 1 < w4.heap.size := by omega)
          go_wp2_with fail
          go_ret2
          exact ⟨by rw [HF.out]; rfl, (by repeat' (first | (with_reducible exact Below.refl _ _) | (with_reducible assumption) | (with_reducible refine Below.setCell ?_ ?_ _) | (with_reducible refine Below.alloc ?_ ?_ _) | (with_reducible refine Below.drew ?_) | (with_reducible refine below_drewN ?_ _) | (with_reducible refine Below.trans ?_ (Below.mono (by with_reducible assumption) ?_)) | go_size | (simp at *; omega)))⟩
        · have HF : Hid (eqvR a b c x y z = eqvC (rdR a b c).1 (cyR (rdR a b c).1) (cyR (rdR x y z).1)) := Lib.hid (by simp [eqvR, hv, hu, h1, h2])
          have HK1 := Lib.hid (rdR_keeps hv h1)
          have HK2 := Lib.hid (rdR_keeps hu h2)
          obtain ⟨f, hf⟩ : ∃ f, (rdR a b c).1 = f := ⟨_, rfl⟩
          obtain ⟨g, hg⟩ : ∃ g, (rdR x y z).1 = g := ⟨_, rfl⟩
          rw [hf] at HF HK1
          rw [hg] at HF HK2
          have R1 := l11Reduce_any a b c
          have R2 := l11Reduce_any x y z
          rw [hf, h1] at R1
          rw [hg, h2] at R2
          generalize (rdR a b c).2.1 = n1 at R1
          generalize (rdR x y z).2.1 = n2 at R2
          have HR1 := Lib.hid R1
          have HR2 := Lib.hid R2
          clear R1 R2 hf hg h1 h2
          rcases ho1 : cyR f with _ | L
          · have HO1 := Lib.hid ho1
            have HE : Hid (eqvR a b c x y z = (false, 5)) := Lib.hid (by rw [HF.out, ho1]; rfl)
            have HC1 := Lib.hid (l11Cycle_any f · HK1.out.2.1)
            have HC2 := Lib.hid (l11Cycle_any g · HK2.out.2.1)
            clear ho1
            go_enter Try.func35, Try.ntmps35
            go_wp2_with fail; refine (l11Ok_any _ _ _ _).mono ?_; rintro e w1 ⟨rfl, hb1⟩; obtain ⟨hc1, hf1, -, hB1⟩ := bcell hb1; have hz1 := hb1.size; (try simp at hz1); (try have hk1_0 : w.heap.size < w1.heap.size := by omega); (try have hk1_1 : w.heap.size + 1 < w1.heap.size := by omega); (try have hk1_2 : w.heap.size + 1 + 1 < w1.heap.size := by omega); (try have hk1_3 : w.heap.size + 1 + 1 + 1 < w1.heap.size := by omega); (try have hk1_4 : wr.heap.size < w1.heap.size := by omega); (try have hk1_5 : wr.heap.size + 1 < w1.heap.size := by omega)
            go_wp2_with fail; refine (l11Ok_any _ _ _ _).mono ?_; rintro e w2 ⟨rfl, hb2⟩; obtain ⟨hc2, hf2, -, hB2⟩ := bcell hb2; have hz2 := hb2.size; (try simp at hz2); (try have hk2_0 : w.heap.size < w2.heap.size := by omega); (try have hk2_1 : w.heap.size + 1 < w2.heap.size := by omega); (try have hk2_2 : w.heap.size + 1 + 1 < w2.heap.size := by omega); (try have hk2_3 : w.heap.size + 1 + 1 + 1 < w2.heap.size := by omega); (try have hk2_4 : wr.heap.size < w2.heap.size := by omega); (try have hk2_5 : wr.heap.size + 1 < w2.heap.size := by omega); (try have hk2_6 : w1.heap.size < w2.heap.size := by omega); (try have hk2_7 : w1.heap.size + 1 < w2.heap.size := by omega)
            go_wp2_with fail; refine (HR1.out _ HV.out).mono ?_; rintro e w3 ⟨rfl, hb3⟩; obtain ⟨hc3, hf3, -, hB3⟩ := bcell hb3; have hz3 := hb3.size; (try simp at hz3); (try have hk3_0 : w.heap.size < w3.heap.size := by omega); (try have hk3_1 : w.heap.size + 1 < w3.heap.size := by omega); (try have hk3_2 : w.heap.size + 1 + 1 < w3.heap.size := by omega); (try have hk3_3 : w.heap.size + 1 + 1 + 1 < w3.heap.size := by omega); (try have hk3_4 : wr.heap.size < w3.heap.size := by omega); (try have hk3_5 : wr.heap.size + 1 < w3.heap.size := by omega); (try have hk3_6 : w1.heap.size < w3.heap.size := by omega); (try have hk3_7 : w1.heap.size + 1 < w3.heap.size := by omega); (try have hk3_8 : w2.heap.size < w3.heap.size := by omega); (try have hk3_9 : w2.heap.size + 1 < w3.heap.size := by omega)
            go_wp2_with fail; refine (HR2.out _ HU.out).mono ?_; rintro e w4 ⟨rfl, hb4⟩; obtain ⟨hc4, hf4, -, hB4⟩ := bcell hb4; have hz4 := hb4.size; (try simp at hz4); (try have hk4_0 : w.heap.size < w4.heap.size := by omega); (try have hk4_1 : w.heap.size + 1 < w4.heap.size := by omega); (try have hk4_2 : w.heap.size + 1 + 1 < w4.heap.size := by omega); (try have hk4_3 : w.heap.size + 1 + 1 + 1 < w4.heap.size := by omega); (try have hk4_4 : wr.heap.size < w4.heap.size := by omega); (try have hk4_5 : wr.heap.size + 1 < w4.heap.size := by omega); (try have hk4_6 : w1.heap.size < w4.heap.size := by omega); (try have hk4_7 : w1.heap.size + 1 < w4.heap.size := by omega); (try have hk4_8 : w2.heap.size < w4.heap.size := by omega); (try have hk4_9 : w2.heap.size + 1 < w4.heap.size := by omega); (try have hk4_10 : w3.heap.size < w4.heap.size := by omega); (try have hk4_11 : w3.heap.size + 1 < w4.heap.size := by omega)
            go_wp2_with fail
            refine (HC1.out _).mono ?_
            intro e w5 hr
            obtain ⟨v5, rfl, -, hb5⟩ := RetFO_is hr
            rw [HO1.out]
            clear hr
            obtain ⟨hc5, hf5, -, hB5⟩ := bcell hb5; have hz5 := hb5.size; (try simp at hz5); (try have hk5_0 : w.heap.size < w5.heap.size := by omega); (try have hk5_1 : w.heap.size + 1 < w5.heap.size := by omega); (try have hk5_2 : w.heap.size + 1 + 1 < w5.heap.size := by omega); (try have hk5_3 : w.heap.size + 1 + 1 + 1 < w5.heap.size := by omega); (try have hk5_4 : wr.heap.size < w5.heap.size := by omega); (try have hk5_5 : wr.heap.size + 1 < w5.heap.size := by omega); (try have hk5_6 : w1.heap.size < w5.heap.size := by omega); (try have hk5_7 : w1.heap.size + 1 < w5.heap.size := by omega); (try have hk5_8 : w2.heap.size < w5.heap.size := by omega); (try have hk5_9 : w2.heap.size + 1 < w5.heap.size := by omega); (try have hk5_10 : w3.heap.size < w5.heap.size := by omega); (try have hk5_11 : w3.heap.size + 1 < w5.heap.size := by omega); (try have hk5_12 : w4.heap.size < w5.heap.size := by omega); (try have hk5_13 : w4.heap.size + 1 < w5.heap.size := by omega)
            go_wp2_with fail
            refine (HC2.out _).mono ?_
            intro e w6 hr
            obtain ⟨v6, rfl, ho6, hb6⟩ := RetFO_is hr
            skip
            clear hr
            have hbel : Below w.heap.size w w6 := (by repeat' (first | (with_reducible exact Below.refl _ _) | (with_reducible assumption) | (with_reducible refine Below.setCell ?_ ?_ _) | (with_reducible refine Below.alloc ?_ ?_ _) | (with_reducible refine Below.drew ?_) | (with_reducible refine below_drewN ?_ _) | (with_reducible refine Below.trans ?_ (Below.mono (by with_reducible assumption) ?_)) | go_size | (simp at *; omega)))
            clear ho6
            go_wp2_with fail
            go_ret2
            exact ⟨by rw [HE.out]; rfl, hbel⟩
          · have HO1 := Lib.hid ho1
            rcases ho2 : cyR g with _ | M
            · have HO2 := Lib.hid ho2
              have HE : Hid (eqvR a b c x y z = (false, 5)) := Lib.hid (by rw [HF.out, ho1, ho2]; rfl)
              have HC1 := Lib.hid (l11Cycle_any f · HK1.out.2.1)
              have HC2 := Lib.hid (l11Cycle_any g · HK2.out.2.1)
              clear ho1 ho2
              go_enter Try.func35, Try.ntmps35
              go_wp2_with fail; refine (l11Ok_any _ _ _ _).mono ?_; rintro e w1 ⟨rfl, hb1⟩; obtain ⟨hc1, hf1, -, hB1⟩ := bcell hb1; have hz1 := hb1.size; (try simp at hz1); (try have hk1_0 : w.heap.size < w1.heap.size := by omega); (try have hk1_1 : w.heap.size + 1 < w1.heap.size := by omega); (try have hk1_2 : w.heap.size + 1 + 1 < w1.heap.size := by omega); (try have hk1_3 : w.heap.size + 1 + 1 + 1 < w1.heap.size := by omega); (try have hk1_4 : wr.heap.size < w1.heap.size := by omega); (try have hk1_5 : wr.heap.size + 1 < w1.heap.size := by omega)
              go_wp2_with fail; refine (l11Ok_any _ _ _ _).mono ?_; rintro e w2 ⟨rfl, hb2⟩; obtain ⟨hc2, hf2, -, hB2⟩ := bcell hb2; have hz2 := hb2.size; (try simp at hz2); (try have hk2_0 : w.heap.size < w2.heap.size := by omega); (try have hk2_1 : w.heap.size + 1 < w2.heap.size := by omega); (try have hk2_2 : w.heap.size + 1 + 1 < w2.heap.size := by omega); (try have hk2_3 : w.heap.size + 1 + 1 + 1 < w2.heap.size := by omega); (try have hk2_4 : wr.heap.size < w2.heap.size := by omega); (try have hk2_5 : wr.heap.size + 1 < w2.heap.size := by omega); (try have hk2_6 : w1.heap.size < w2.heap.size := by omega); (try have hk2_7 : w1.heap.size + 1 < w2.heap.size := by omega)
              go_wp2_with fail; refine (HR1.out _ HV.out).mono ?_; rintro e w3 ⟨rfl, hb3⟩; obtain ⟨hc3, hf3, -, hB3⟩ := bcell hb3; have hz3 := hb3.size; (try simp at hz3); (try have hk3_0 : w.heap.size < w3.heap.size := by omega); (try have hk3_1 : w.heap.size + 1 < w3.heap.size := by omega); (try have hk3_2 : w.heap.size + 1 + 1 < w3.heap.size := by omega); (try have hk3_3 : w.heap.size + 1 + 1 + 1 < w3.heap.size := by omega); (try have hk3_4 : wr.heap.size < w3.heap.size := by omega); (try have hk3_5 : wr.heap.size + 1 < w3.heap.size := by omega); (try have hk3_6 : w1.heap.size < w3.heap.size := by omega); (try have hk3_7 : w1.heap.size + 1 < w3.heap.size := by omega); (try have hk3_8 : w2.heap.size < w3.heap.size := by omega); (try have hk3_9 : w2.heap.size + 1 < w3.heap.size := by omega)
              go_wp2_with fail; refine (HR2.out _ HU.out).mono ?_; rintro e w4 ⟨rfl, hb4⟩; obtain ⟨hc4, hf4, -, hB4⟩ := bcell hb4; have hz4 := hb4.size; (try simp at hz4); (try have hk4_0 : w.heap.size < w4.heap.size := by omega); (try have hk4_1 : w.heap.size + 1 < w4.heap.size := by omega); (try have hk4_2 : w.heap.size + 1 + 1 < w4.heap.size := by omega); (try have hk4_3 : w.heap.size + 1 + 1 + 1 < w4.heap.size := by omega); (try have hk4_4 : wr.heap.size < w4.heap.size := by omega); (try have hk4_5 : wr.heap.size + 1 < w4.heap.size := by omega); (try have hk4_6 : w1.heap.size < w4.heap.size := by omega); (try have hk4_7 : w1.heap.size + 1 < w4.heap.size := by omega); (try have hk4_8 : w2.heap.size < w4.heap.size := by omega); (try have hk4_9 : w2.heap.size + 1 < w4.heap.size := by omega); (try have hk4_10 : w3.heap.size < w4.heap.size := by omega); (try have hk4_11 : w3.heap.size + 1 < w4.heap.size := by omega)
              go_wp2_with fail
              refine (HC1.out _).mono ?_
              intro e w5 hr
              obtain ⟨v5, rfl, -, hb5⟩ := RetFO_is hr
              rw [HO1.out]
              clear hr
              obtain ⟨hc5, hf5, -, hB5⟩ := bcell hb5; have hz5 := hb5.size; (try simp at hz5); (try have hk5_0 : w.heap.size < w5.heap.size := by omega); (try have hk5_1 : w.heap.size + 1 < w5.heap.size := by omega); (try have hk5_2 : w.heap.size + 1 + 1 < w5.heap.size := by omega); (try have hk5_3 : w.heap.size + 1 + 1 + 1 < w5.heap.size := by omega); (try have hk5_4 : wr.heap.size < w5.heap.size := by omega); (try have hk5_5 : wr.heap.size + 1 < w5.heap.size := by omega); (try have hk5_6 : w1.heap.size < w5.heap.size := by omega); (try have hk5_7 : w1.heap.size + 1 < w5.heap.size := by omega); (try have hk5_8 : w2.heap.size < w5.heap.size := by omega); (try have hk5_9 : w2.heap.size + 1 < w5.heap.size := by omega); (try have hk5_10 : w3.heap.size < w5.heap.size := by omega); (try have hk5_11 : w3.heap.size + 1 < w5.heap.size := by omega); (try have hk5_12 : w4.heap.size < w5.heap.size := by omega); (try have hk5_13 : w4.heap.size + 1 < w5.heap.size := by omega)
              go_wp2_with fail
              refine (HC2.out _).mono ?_
              intro e w6 hr
              obtain ⟨v6, rfl, ho6, hb6⟩ := RetFO_is hr
              rw [HO2.out]
              clear hr
              have hbel : Below w.heap.size w w6 := (by repeat' (first | (with_reducible exact Below.refl _ _) | (with_reducible assumption) | (with_reducible refine Below.setCell ?_ ?_ _) | (with_reducible refine Below.alloc ?_ ?_ _) | (with_reducible refine Below.drew ?_) | (with_reducible refine below_drewN ?_ _) | (with_reducible refine Below.trans ?_ (Below.mono (by with_reducible assumption) ?_)) | go_size | (simp at *; omega)))
              clear ho6
              go_wp2_with fail
              go_ret2
              exact ⟨by rw [HE.out]; rfl, hbel⟩
            · have HO2 := Lib.hid ho2
              have HE : Hid (eqvR a b c x y z = (decide (0 ≤ fiF f M 0), 0)) := Lib.hid (by rw [HF.out, ho1, ho2]; rfl)
              have hM := cyR_len ho2
              have HC1 := Lib.hid (l11Cycle_any f · HK1.out.2.1)
              have HC2 := Lib.hid (l11Cycle_any g · HK2.out.2.1)
              clear ho1 ho2
              go_enter Try.func35, Try.ntmps35
              go_wp2_with fail; refine (l11Ok_any _ _ _ _).mono ?_; rintro e w1 ⟨rfl, hb1⟩; obtain ⟨hc1, hf1, -, hB1⟩ := bcell hb1; have hz1 := hb1.size; (try simp at hz1); (try have hk1_0 : w.heap.size < w1.heap.size := by omega); (try have hk1_1 : w.heap.size + 1 < w1.heap.size := by omega); (try have hk1_2 : w.heap.size + 1 + 1 < w1.heap.size := by omega); (try have hk1_3 : w.heap.size + 1 + 1 + 1 < w1.heap.size := by omega); (try have hk1_4 : wr.heap.size < w1.heap.size := by omega); (try have hk1_5 : wr.heap.size + 1 < w1.heap.size := by omega)
              go_wp2_with fail; refine (l11Ok_any _ _ _ _).mono ?_; rintro e w2 ⟨rfl, hb2⟩; obtain ⟨hc2, hf2, -, hB2⟩ := bcell hb2; have hz2 := hb2.size; (try simp at hz2); (try have hk2_0 : w.heap.size < w2.heap.size := by omega); (try have hk2_1 : w.heap.size + 1 < w2.heap.size := by omega); (try have hk2_2 : w.heap.size + 1 + 1 < w2.heap.size := by omega); (try have hk2_3 : w.heap.size + 1 + 1 + 1 < w2.heap.size := by omega); (try have hk2_4 : wr.heap.size < w2.heap.size := by omega); (try have hk2_5 : wr.heap.size + 1 < w2.heap.size := by omega); (try have hk2_6 : w1.heap.size < w2.heap.size := by omega); (try have hk2_7 : w1.heap.size + 1 < w2.heap.size := by omega)
              go_wp2_with fail; refine (HR1.out _ HV.out).mono ?_; rintro e w3 ⟨rfl, hb3⟩; obtain ⟨hc3, hf3, -, hB3⟩ := bcell hb3; have hz3 := hb3.size; (try simp at hz3); (try have hk3_0 : w.heap.size < w3.heap.size := by omega); (try have hk3_1 : w.heap.size + 1 < w3.heap.size := by omega); (try have hk3_2 : w.heap.size + 1 + 1 < w3.heap.size := by omega); (try have hk3_3 : w.heap.size + 1 + 1 + 1 < w3.heap.size := by omega); (try have hk3_4 : wr.heap.size < w3.heap.size := by omega); (try have hk3_5 : wr.heap.size + 1 < w3.heap.size := by omega); (try have hk3_6 : w1.heap.size < w3.heap.size := by omega); (try have hk3_7 : w1.heap.size + 1 < w3.heap.size := by omega); (try have hk3_8 : w2.heap.size < w3.heap.size := by omega); (try have hk3_9 : w2.heap.size + 1 < w3.heap.size := by omega)
              go_wp2_with fail; refine (HR2.out _ HU.out).mono ?_; rintro e w4 ⟨rfl, hb4⟩; obtain ⟨hc4, hf4, -, hB4⟩ := bcell hb4; have hz4 := hb4.size; (try simp at hz4); (try have hk4_0 : w.heap.size < w4.heap.size := by omega); (try have hk4_1 : w.heap.size + 1 < w4.heap.size := by omega); (try have hk4_2 : w.heap.size + 1 + 1 < w4.heap.size := by omega); (try have hk4_3 : w.heap.size + 1 + 1 + 1 < w4.heap.size := by omega); (try have hk4_4 : wr.heap.size < w4.heap.size := by omega); (try have hk4_5 : wr.heap.size + 1 < w4.heap.size := by omega); (try have hk4_6 : w1.heap.size < w4.heap.size := by omega); (try have hk4_7 : w1.heap.size + 1 < w4.heap.size := by omega); (try have hk4_8 : w2.heap.size < w4.heap.size := by omega); (try have hk4_9 : w2.heap.size + 1 < w4.heap.size := by omega); (try have hk4_10 : w3.heap.size < w4.heap.size := by omega); (try have hk4_11 : w3.heap.size + 1 < w4.heap.size := by omega)
              go_wp2_with fail
              refine (HC1.out _).mono ?_
              intro e w5 hr
              obtain ⟨v5, rfl, -, hb5⟩ := RetFO_is hr
              rw [HO1.out]
              clear hr
              obtain ⟨hc5, hf5, -, hB5⟩ := bcell hb5; have hz5 := hb5.size; (try simp at hz5); (try have hk5_0 : w.heap.size < w5.heap.size := by omega); (try have hk5_1 : w.heap.size + 1 < w5.heap.size := by omega); (try have hk5_2 : w.heap.size + 1 + 1 < w5.heap.size := by omega); (try have hk5_3 : w.heap.size + 1 + 1 + 1 < w5.heap.size := by omega); (try have hk5_4 : wr.heap.size < w5.heap.size := by omega); (try have hk5_5 : wr.heap.size + 1 < w5.heap.size := by omega); (try have hk5_6 : w1.heap.size < w5.heap.size := by omega); (try have hk5_7 : w1.heap.size + 1 < w5.heap.size := by omega); (try have hk5_8 : w2.heap.size < w5.heap.size := by omega); (try have hk5_9 : w2.heap.size + 1 < w5.heap.size := by omega); (try have hk5_10 : w3.heap.size < w5.heap.size := by omega); (try have hk5_11 : w3.heap.size + 1 < w5.heap.size := by omega); (try have hk5_12 : w4.heap.size < w5.heap.size := by omega); (try have hk5_13 : w4.heap.size + 1 < w5.heap.size := by omega)
              go_wp2_with fail
              refine (HC2.out _).mono ?_
              intro e w6 hr
              obtain ⟨v6, rfl, ho6, hb6⟩ := RetFO_is hr
              rw [HO2.out]
              clear hr
              have hbel : Below w.heap.size w w6 := (by repeat' (first | (with_reducible exact Below.refl _ _) | (with_reducible assumption) | (with_reducible refine Below.setCell ?_ ?_ _) | (with_reducible refine Below.alloc ?_ ?_ _) | (with_reducible refine Below.drew ?_) | (with_reducible refine below_drewN ?_ _) | (with_reducible refine Below.trans ?_ (Below.mono (by with_reducible assumption) ?_)) | go_size | (simp at *; omega)))
              have HM := Lib.hid (ho6 M HO2.out)
              clear ho6
              obtain ⟨hc6, hf6, -, hB6⟩ := bcell hb6; have hz6 := hb6.size; (try simp at hz6); (try have hk6_0 : w.heap.size < w6.heap.size := by omega); (try have hk6_1 : w.heap.size + 1 < w6.heap.size := by omega); (try have hk6_2 : w.heap.size + 1 + 1 < w6.heap.size := by omega); (try have hk6_3 : w.heap.size + 1 + 1 + 1 < w6.heap.size := by omega); (try have hk6_4 : wr.heap.size < w6.heap.size := by omega); (try have hk6_5 : wr.heap.size + 1 < w6.heap.size := by omega); (try have hk6_6 : w1.heap.size < w6.heap.size := by omega); (try have hk6_7 : w1.heap.size + 1 < w6.heap.size := by omega); (try have hk6_8 : w2.heap.size < w6.heap.size := by omega); (try have hk6_9 : w2.heap.size + 1 < w6.heap.size := by omega); (try have hk6_10 : w3.heap.size < w6.heap.size := by omega); (try have hk6_11 : w3.heap.size + 1 < w6.heap.size := by omega); (try have hk6_12 : w4.heap.size < w6.heap.size := by omega); (try have hk6_13 : w4.heap.size + 1 < w6.heap.size := by omega); (try have hk6_14 : w5.heap.size < w6.heap.size := by omega); (try have hk6_15 : w5.heap.size + 1 < w6.heap.size := by omega)
              go_wp2_with fail
              refine (l11Find_any _ M _ f _ HM.out (by omega)).mono ?_
              rintro e w7 ⟨rfl, hb7⟩
              have hbel7 : Below w.heap.size w w7 := (by repeat' (first | (with_reducible exact Below.refl _ _) | (with_reducible assumption) | (with_reducible refine Below.setCell ?_ ?_ _) | (with_reducible refine Below.alloc ?_ ?_ _) | (with_reducible refine Below.drew ?_) | (with_reducible refine below_drewN ?_ _) | (with_reducible refine Below.trans ?_ (Below.mono (by with_reducible assumption) ?_)) | go_size | (simp at *; omega)))
              go_wp2_with fail
              go_ret2
              exact ⟨by rw [HE.out]; rfl, hbel7⟩
end Go.Proofs.Ytolbihoeheogkaa
