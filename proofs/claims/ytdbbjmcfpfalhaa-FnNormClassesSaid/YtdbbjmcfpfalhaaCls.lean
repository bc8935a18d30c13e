/- Classes of solutions: places, lists: plain law, and the searches of both packages. -/
import Derived.Test.YtdbbjmcfpfalhaaNext
namespace Go.Proofs.Ytdbbjmcfpfalhaa
open Go.ChangeShapes Go.WideShapes Go.ChangeAt Go.RowKit
set_option linter.unusedVariables false
set_option maxHeartbeats 8000000
set_option maxRecDepth 20000
/-- The place of the class of a pair, from i on; -1 if it is new. -/
def fnC (d n x y : Int) : List Pp → Nat → Int
  | [], _ => -1
  | p :: L, i => if smB d n p.x p.y x y = true then (i : Int) else fnC d n x y L (i + 1)
theorem fnC_end {d n x y : Int} {L : List Pp} {i : Nat} (h : L.length ≤ i) : fnC d n x y (L.drop i) i = -1 := by
  rw [List.drop_eq_nil_of_le h]
  rfl
theorem fnC_yes {d n x y : Int} {L : List Pp} {i : Nat} (h : i < L.length) (hs : smB d n (L[i]).x (L[i]).y x y = true) : fnC d n x y (L.drop i) i = i := by
  rw [List.drop_eq_getElem_cons h]
  unfold fnC
  rw [if_pos hs]
theorem fnC_no {d n x y : Int} {L : List Pp} {i : Nat} (h : i < L.length) (hs : smB d n (L[i]).x (L[i]).y x y = false) : fnC d n x y (L.drop i) i = fnC d n x y (L.drop (i + 1)) (i + 1) := by
  conv => lhs; rw [List.drop_eq_getElem_cons h]
  conv => lhs; unfold fnC
  rw [if_neg (by rw [hs]; decide)]
theorem fnC_b (d n x y : Int) : ∀ (L : List Pp) (i : Nat), -1 ≤ fnC d n x y L i ∧ fnC d n x y L i < (L.length + i : Nat) := by
  intro L
  induction L with
  | nil => intro i; unfold fnC; constructor <;> simp <;> omega
  | cons p L ih =>
    intro i
    unfold fnC
    split
    · rw [List.length_cons]; omega
    · have := ih (i + 1); rw [List.length_cons]; omega
/-- All pairs of a list are plain. -/
def PlA (d : Int) (L : List Pp) : Prop := ∀ p ∈ L, pOk d p.x p.y = true
theorem PlA.at {d : Int} {L : List Pp} (h : PlA d L) (i : Nat) (hi : i < L.length) : pOk d (L[i]).x (L[i]).y = true := h _ (List.getElem_mem hi)
/-- A pair is laid behind a list if its class is new. -/
def adC (d n : Int) (L : List Pp) (p : Pp) : List Pp := if fnC d n p.x p.y L 0 < 0 then L ++ [p] else L
theorem adC_yes {d n : Int} {L : List Pp} {p : Pp} (h : fnC d n p.x p.y L 0 < 0) : adC d n L p = L ++ [p] := by unfold adC; rw [if_pos h]
theorem adC_no {d n : Int} {L : List Pp} {p : Pp} (h : ¬ fnC d n p.x p.y L 0 < 0) : adC d n L p = L := by unfold adC; rw [if_neg h]
theorem adC_pl {d n : Int} {L : List Pp} {p : Pp} (h : PlA d L) (hp : pOk d p.x p.y = true) : PlA d (adC d n L p) := by
  unfold adC
  split
  · intro q hq
    rw [List.mem_append, List.mem_singleton] at hq
    rcases hq with hq | rfl
    · exact h q hq
    · exact hp
  · exact h
theorem adC_len (d n : Int) (L : List Pp) (p : Pp) : (adC d n L p).length ≤ L.length + 1 := by
  unfold adC
  split
  · simp
  · omega
/-- The list of classes with Y below k. -/
def csF (d n : Int) : Nat → List Pp
  | 0 => []
  | k + 1 => if sqB (zX d n k) = true then adC d n (adC d n (csF d n k) ⟨rt (zX d n k), k⟩) ⟨-rt (zX d n k), k⟩ else csF d n k
theorem cs_no {d n : Int} {k : Nat} (h : sqB (zX d n k) = false) : csF d n (k + 1) = csF d n k := by
  conv => lhs; unfold csF
  rw [if_neg (by rw [h]; decide)]
theorem cs_yes {d n : Int} {k : Nat} (h : sqB (zX d n k) = true) : csF d n (k + 1) = adC d n (adC d n (csF d n k) ⟨rt (zX d n k), k⟩) ⟨-rt (zX d n k), k⟩ := by
  conv => lhs; unfold csF
  rw [if_pos h]
theorem cs_len (d n : Int) (k : Nat) : (csF d n k).length ≤ 2 * k := by
  induction k with
  | zero => simp [csF]
  | succ k ih =>
    unfold csF
    split
    · have h1 := adC_len d n (csF d n k) ⟨rt (zX d n k), k⟩
      have h2 := adC_len d n (adC d n (csF d n k) ⟨rt (zX d n k), k⟩) ⟨-rt (zX d n k), k⟩
      omega
    · omega
theorem pOk_neg {d x y : Int} (h : pOk d x y = true) : pOk d (-x) y = true := by
  obtain ⟨h1, h2, h3⟩ := pOk_iff.1 h
  exact pOk_iff.2 ⟨by omega, h2, h3⟩
theorem cs_pl {d n : Int} (hd : 2 ≤ d ∧ d ≤ 1000) (hn : -1000 ≤ n ∧ n ≤ 1000) (k : Nat) (hk : k ≤ 100001) : PlA d (csF d n k) := by
  induction k with
  | zero => intro p hp; simp [csF] at hp
  | succ k ih =>
    have h0 := su_plain (y := (k : Int)) hd hn (by omega)
    unfold csF
    split
    · exact adC_pl (adC_pl (ih (by omega)) h0) (pOk_neg h0)
    · exact ih (by omega)
theorem classOf_any (d n x y : Int) (v : Value) (L : List Pp) (B : Nat) (w : World) (hd : 2 ≤ d ∧ d ≤ 10000) (hn : n ≠ 0) (h : OwnP w B v L) (hl : L.length ≤ 1000000) (hP : PlA d L) (hp : pOk d x y = true) :
    Calls Try.prog 62 #[.int .i64 d, .int .i64 n, v, .agg #[.int .i64 x, .int .i64 y]] w fun e w' => e = .returned (.int .i64 (fnC d n x y L 0)) ∧ Below w.heap.size w w' := by
  rcases h.shape with ⟨rfl, ao, c1, rfl⟩ | ⟨hp1, b, c1, rfl, _, hb, _⟩
  · have HF : Hid (fnC d n x y [] 0 = -1) := Lib.hid rfl
    rw [HF.out]
    clear h hP
    go_enter Try.func62, Try.ntmps62
    go_wp2
    go_loopg [13] 1 (fun k u wr => u = .int .i64 0 ∧ Below w.heap.size w wr)
    case atStart => exact ⟨rfl, (by repeat' (first | (with_reducible exact Below.refl _ _) | (with_reducible assumption) | (with_reducible refine Below.setCell ?_ ?_ _) | (with_reducible refine Below.alloc ?_ ?_ _) | (with_reducible refine Below.drew ?_) | (with_reducible refine below_drewN ?_ _) | (with_reducible refine Below.trans ?_ (Below.mono (by with_reducible assumption) ?_)) | go_size | (simp at *; omega)))⟩
    case round =>
      obtain ⟨rfl, hbel⟩ := hrel
      go_wp2
      go_ret
      exact ⟨rfl, (by repeat' (first | (with_reducible exact Below.refl _ _) | (with_reducible assumption) | (with_reducible refine Below.setCell ?_ ?_ _) | (with_reducible refine Below.alloc ?_ ?_ _) | (with_reducible refine Below.drew ?_) | (with_reducible refine below_drewN ?_ _) | (with_reducible refine Below.trans ?_ (Below.mono (by with_reducible assumption) ?_)) | go_size | (simp at *; omega)))⟩
  · obtain ⟨R, hR⟩ : ∃ R, fnC d n x y L 0 = R := ⟨_, rfl⟩
    rw [hR]
    have HR := Lib.hid hR
    have HO := Lib.hid h
    have HS := Lib.hid (fun i hi w => sameClass_any d n (L[i]'hi).x (L[i]'hi).y x y w hd hn (hP.at i hi) hp)
    have HY := Lib.hid (fun i (hi : i < L.length) => fnC_yes (d := d) (n := n) (x := x) (y := y) hi)
    have HN := Lib.hid (fun i (hi : i < L.length) => fnC_no (d := d) (n := n) (x := x) (y := y) hi)
    have HE := Lib.hid (fnC_end (d := d) (n := n) (x := x) (y := y) (L := L) (i := L.length) (Nat.le_refl _))
    clear hR h hP hp
    go_enter Try.func62, Try.ntmps62
    go_wp2_with fail
    have gB : heapAt (w.alloc (.cells #[.int .i64 x, .int .i64 y] 25)) w.heap.size = some (.cells #[.int .i64 x, .int .i64 y] 25 (0, 0)) := heapAt_new w _
    go_loopg [13] (L.length + 1) (fun k s wr => ∃ i : Nat, s = .int .i64 i ∧ i + k = L.length + 1 ∧ i ≤ L.length ∧ Hid (fnC d n x y (L.drop i) i = R) ∧ Below (w.alloc (.cells #[.int .i64 x, .int .i64 y] 25)).heap.size (w.alloc (.cells #[.int .i64 x, .int .i64 y] 25)) wr)
    case atStart => exact ⟨0, rfl, by omega, by omega, HR, (by repeat' (first | (with_reducible exact Below.refl _ _) | (with_reducible assumption) | (with_reducible refine Below.setCell ?_ ?_ _) | (with_reducible refine Below.alloc ?_ ?_ _) | (with_reducible refine Below.drew ?_) | (with_reducible refine below_drewN ?_ _) | (with_reducible refine Below.trans ?_ (Below.mono (by with_reducible assumption) ?_)) | go_size | (simp at *; omega)))⟩
    case round =>
      obtain ⟨i, rfl, hik, hil, HI, hbel⟩ := hrel
      have hzr := hbel.size
      simp at hzr
      have gBr : heapAt wr w.heap.size = some (.cells #[.int .i64 x, .int .i64 y] 25 (0, 0)) := (hbel.block _ (by simp)).trans gB
      have hbw : Below w.heap.size w wr := (Below.alloc (Below.refl _ _) (Nat.le_refl _) _).trans (hbel.mono (by simp))
      obtain ⟨zR, r1, r2, r3, r4⟩ := blk2 gBr
      by_cases hlt : i < L.length
      · obtain ⟨c0, c1⟩ := OwnP.cells (HO.out.below hbw) i hlt
        have i0 : (0 : Int) ≤ (i : Int) := by omega
        have i1 : (i : Int) < (L.length : Int) := by omega
        have HS1 := Lib.hid (HS.out i hlt)
        have HY1 := Lib.hid (HY.out i hlt)
        have HN1 := Lib.hid (HN.out i hlt)
        generalize (L[i]).x = X at *
        generalize (L[i]).y = Y at *
        cases hs : smB d n X Y x y
        · have HC := Lib.hid (by have h := HS1.out; rw [hs] at h; exact h)
          have HI2 : Hid (fnC d n x y (L.drop (i + 1)) (i + 1) = R) := Lib.hid (by rw [← HI.out, HN1.out hs])
          clear hs HI
          go_wp2_with fail; refine (HC.out _).mono ?_; rintro e w1 ⟨rfl, hb1⟩; obtain ⟨hc1, hf1, -, hB1⟩ := bcell hb1; have hz1 := hb1.size; (try simp at hz1); (try have hk1_0 : w.heap.size < w1.heap.size := by omega); (try have hk1_1 : w.heap.size + 1 < w1.heap.size := by omega); (try have hk1_2 : w.heap.size + 1 + 1 < w1.heap.size := by omega); (try have hk1_3 : w.heap.size + 1 + 1 + 1 < w1.heap.size := by omega); (try have hk1_4 : wr.heap.size < w1.heap.size := by omega); (try have hk1_5 : wr.heap.size + 1 < w1.heap.size := by omega)
          go_wp2_with fail
          go_roundg (gk - 1)
          case measure => omega
          case rel => exact ⟨i + 1, by go_num, by omega, by omega, HI2, (by repeat' (first | (with_reducible exact Below.refl _ _) | (with_reducible assumption) | (with_reducible refine Below.setCell ?_ ?_ _) | (with_reducible refine Below.alloc ?_ ?_ _) | (with_reducible refine Below.drew ?_) | (with_reducible refine below_drewN ?_ _) | (with_reducible refine Below.trans ?_ (Below.mono (by with_reducible assumption) ?_)) | go_size | (simp at *; omega)))⟩
        · have HC := Lib.hid (by have h := HS1.out; rw [hs] at h; exact h)
          have HI2 : Hid ((i : Int) = R) := Lib.hid (by rw [← HI.out, HY1.out hs])
          clear hs HI
          go_wp2_with fail; refine (HC.out _).mono ?_; rintro e w1 ⟨rfl, hb1⟩; obtain ⟨hc1, hf1, -, hB1⟩ := bcell hb1; have hz1 := hb1.size; (try simp at hz1); (try have hk1_0 : w.heap.size < w1.heap.size := by omega); (try have hk1_1 : w.heap.size + 1 < w1.heap.size := by omega); (try have hk1_2 : w.heap.size + 1 + 1 < w1.heap.size := by omega); (try have hk1_3 : w.heap.size + 1 + 1 + 1 < w1.heap.size := by omega); (try have hk1_4 : wr.heap.size < w1.heap.size := by omega); (try have hk1_5 : wr.heap.size + 1 < w1.heap.size := by omega)
          go_wp2_with fail
          go_ret
          exact ⟨ret_int HI2.out, (by repeat' (first | (with_reducible exact Below.refl _ _) | (with_reducible assumption) | (with_reducible refine Below.setCell ?_ ?_ _) | (with_reducible refine Below.alloc ?_ ?_ _) | (with_reducible refine Below.drew ?_) | (with_reducible refine below_drewN ?_ _) | (with_reducible refine Below.trans ?_ (Below.mono (by with_reducible assumption) ?_)) | go_size | (simp at *; omega)))⟩
      · have i1 : ¬ (i : Int) < (L.length : Int) := by omega
        have e : i = L.length := by omega
        have HI2 : Hid (-1 = R) := Lib.hid (by rw [← HI.out, e, HE.out])
        clear e
        go_wp2_with fail
        go_ret
        exact ⟨ret_int HI2.out, (by repeat' (first | (with_reducible exact Below.refl _ _) | (with_reducible assumption) | (with_reducible refine Below.setCell ?_ ?_ _) | (with_reducible refine Below.alloc ?_ ?_ _) | (with_reducible refine Below.drew ?_) | (with_reducible refine below_drewN ?_ _) | (with_reducible refine Below.trans ?_ (Below.mono (by with_reducible assumption) ?_)) | go_size | (simp at *; omega)))⟩
theorem l10Find_any (d n x y : Int) (v : Value) (L : List Pp) (B : Nat) (w : World) (hd : 2 ≤ d ∧ d ≤ 10000) (hn : n ≠ 0) (h : OwnP w B v L) (hl : L.length ≤ 1000000) (hP : PlA d L) (hp : pOk d x y = true) :
    Calls Try.prog 60 #[.int .i64 d, .int .i64 n, v, .agg #[.int .i64 x, .int .i64 y]] w fun e w' => e = .returned (.int .i64 (fnC d n x y L 0)) ∧ Below w.heap.size w w' := by
  rcases h.shape with ⟨rfl, ao, c1, rfl⟩ | ⟨hp1, b, c1, rfl, _, hb, _⟩
  · have HF : Hid (fnC d n x y [] 0 = -1) := Lib.hid rfl
    rw [HF.out]
    clear h hP
    go_enter Try.func60, Try.ntmps60
    go_wp2
    go_loopg [9] 1 (fun k u wr => u = .int .i64 0 ∧ Below w.heap.size w wr)
    case atStart => exact ⟨rfl, (by repeat' (first | (with_reducible exact Below.refl _ _) | (with_reducible assumption) | (with_reducible refine Below.setCell ?_ ?_ _) | (with_reducible refine Below.alloc ?_ ?_ _) | (with_reducible refine Below.drew ?_) | (with_reducible refine below_drewN ?_ _) | (with_reducible refine Below.trans ?_ (Below.mono (by with_reducible assumption) ?_)) | go_size | (simp at *; omega)))⟩
    case round =>
      obtain ⟨rfl, hbel⟩ := hrel
      go_wp2
      go_ret
      exact ⟨rfl, (by repeat' (first | (with_reducible exact Below.refl _ _) | (with_reducible assumption) | (with_reducible refine Below.setCell ?_ ?_ _) | (with_reducible refine Below.alloc ?_ ?_ _) | (with_reducible refine Below.drew ?_) | (with_reducible refine below_drewN ?_ _) | (with_reducible refine Below.trans ?_ (Below.mono (by with_reducible assumption) ?_)) | go_size | (simp at *; omega)))⟩
  · obtain ⟨R, hR⟩ : ∃ R, fnC d n x y L 0 = R := ⟨_, rfl⟩
    rw [hR]
    have HR := Lib.hid hR
    have HO := Lib.hid h
    have HS := Lib.hid (fun i hi w => l10Same_any d n (L[i]'hi).x (L[i]'hi).y x y w hd hn (hP.at i hi) hp)
    have HY := Lib.hid (fun i (hi : i < L.length) => fnC_yes (d := d) (n := n) (x := x) (y := y) hi)
    have HN := Lib.hid (fun i (hi : i < L.length) => fnC_no (d := d) (n := n) (x := x) (y := y) hi)
    have HE := Lib.hid (fnC_end (d := d) (n := n) (x := x) (y := y) (L := L) (i := L.length) (Nat.le_refl _))
    clear hR h hP hp
    go_enter Try.func60, Try.ntmps60
    go_wp2_with fail
    have gB : heapAt (w.alloc (.cells #[.int .i64 x, .int .i64 y] 25)) w.heap.size = some (.cells #[.int .i64 x, .int .i64 y] 25 (0, 0)) := heapAt_new w _
    go_loopg [9] (L.length + 1) (fun k s wr => ∃ i : Nat, s = .int .i64 i ∧ i + k = L.length + 1 ∧ i ≤ L.length ∧ Hid (fnC d n x y (L.drop i) i = R) ∧ Below (w.alloc (.cells #[.int .i64 x, .int .i64 y] 25)).heap.size (w.alloc (.cells #[.int .i64 x, .int .i64 y] 25)) wr)
    case atStart => exact ⟨0, rfl, by omega, by omega, HR, (by repeat' (first | (with_reducible exact Below.refl _ _) | (with_reducible assumption) | (with_reducible refine Below.setCell ?_ ?_ _) | (with_reducible refine Below.alloc ?_ ?_ _) | (with_reducible refine Below.drew ?_) | (with_reducible refine below_drewN ?_ _) | (with_reducible refine Below.trans ?_ (Below.mono (by with_reducible assumption) ?_)) | go_size | (simp at *; omega)))⟩
    case round =>
      obtain ⟨i, rfl, hik, hil, HI, hbel⟩ := hrel
      have hzr := hbel.size
      simp at hzr
      have gBr : heapAt wr w.heap.size = some (.cells #[.int .i64 x, .int .i64 y] 25 (0, 0)) := (hbel.block _ (by simp)).trans gB
      have hbw : Below w.heap.size w wr := (Below.alloc (Below.refl _ _) (Nat.le_refl _) _).trans (hbel.mono (by simp))
      obtain ⟨zR, r1, r2, r3, r4⟩ := blk2 gBr
      have zb : b < wr.heap.size := by omega
      by_cases hlt : i < L.length
      · obtain ⟨c0, c1⟩ := OwnP.cells (HO.out.below hbw) i hlt
        have i0 : (0 : Int) ≤ (i : Int) := by omega
        have i1 : (i : Int) < (L.length : Int) := by omega
        have HS1 := Lib.hid (HS.out i hlt)
        have HY1 := Lib.hid (HY.out i hlt)
        have HN1 := Lib.hid (HN.out i hlt)
        generalize (L[i]).x = X at *
        generalize (L[i]).y = Y at *
        cases hs : smB d n X Y x y
        · have HC := Lib.hid (by have h := HS1.out; rw [hs] at h; exact h)
          have HI2 : Hid (fnC d n x y (L.drop (i + 1)) (i + 1) = R) := Lib.hid (by rw [← HI.out, HN1.out hs])
          clear hs HI
          go_wp2_with fail
          go_region_held3 (fun w' => Kept wr w') (repeat (first | (with_reducible assumption) | (with_reducible exact kept_refl _) | (with_reducible exact kept_other (by with_reducible assumption) (by first | omega | (simp; done) | (simp; omega))) | (with_reducible refine kept_alloc ?_) | (with_reducible refine kept_drew ?_) | (with_reducible refine kept_set ?_ (by first | omega | (simp; done) | (simp; omega))) | (with_reducible refine kept_call ?_ hb1))) (first | (go_at_call 43; refine (HC.out _).mono ?_; rintro e w1 ⟨rfl, hb1⟩; obtain ⟨hc1, hf1, hl1, hB1⟩ := bcell hb1; (try simp only [World.size_drew, cell_drew, frozen_drew, heapAt_drew] at hc1 hf1 hl1 hB1); have hz1 := hb1.size; (try simp at hz1); (try have hkA := hl1 _ hkA); (try have hkA : _ < w1.heap.size := hz1); (try have hkW : wr.heap.size < w1.heap.size := by omega); (try have hk0 : w.heap.size < w1.heap.size := by omega); (try have hk1 : w.heap.size + 1 < w1.heap.size := by omega); (try have hk2 : w.heap.size + 1 + 1 < w1.heap.size := by omega)))
          go_wp2_with fail
          go_roundg (gk - 1)
          case measure => omega
          case rel => exact ⟨i + 1, by go_num, by omega, by omega, HI2, (by repeat' (first | (with_reducible exact Below.refl _ _) | (with_reducible assumption) | (with_reducible refine Below.setCell ?_ ?_ _) | (with_reducible refine Below.alloc ?_ ?_ _) | (with_reducible refine Below.drew ?_) | (with_reducible refine below_drewN ?_ _) | (with_reducible refine Below.trans ?_ (Below.mono (by with_reducible assumption) ?_)) | go_size | (simp at *; omega)))⟩
        · have HC := Lib.hid (by have h := HS1.out; rw [hs] at h; exact h)
          have HI2 : Hid ((i : Int) = R) := Lib.hid (by rw [← HI.out, HY1.out hs])
          clear hs HI
          go_wp2_with fail
          go_region_held3 (fun w' => Kept wr w') (repeat (first | (with_reducible assumption) | (with_reducible exact kept_refl _) | (with_reducible exact kept_other (by with_reducible assumption) (by first | omega | (simp; done) | (simp; omega))) | (with_reducible refine kept_alloc ?_) | (with_reducible refine kept_drew ?_) | (with_reducible refine kept_set ?_ (by first | omega | (simp; done) | (simp; omega))) | (with_reducible refine kept_call ?_ hb1))) (first | (go_at_call 43; refine (HC.out _).mono ?_; rintro e w1 ⟨rfl, hb1⟩; obtain ⟨hc1, hf1, hl1, hB1⟩ := bcell hb1; (try simp only [World.size_drew, cell_drew, frozen_drew, heapAt_drew] at hc1 hf1 hl1 hB1); have hz1 := hb1.size; (try simp at hz1); (try have hkA := hl1 _ hkA); (try have hkA : _ < w1.heap.size := hz1); (try have hkW : wr.heap.size < w1.heap.size := by omega); (try have hk0 : w.heap.size < w1.heap.size := by omega); (try have hk1 : w.heap.size + 1 < w1.heap.size := by omega); (try have hk2 : w.heap.size + 1 + 1 < w1.heap.size := by omega)))
          go_wp2_with fail
          go_ret
          exact ⟨ret_int HI2.out, (by repeat' (first | (with_reducible exact Below.refl _ _) | (with_reducible assumption) | (with_reducible refine Below.setCell ?_ ?_ _) | (with_reducible refine Below.alloc ?_ ?_ _) | (with_reducible refine Below.drew ?_) | (with_reducible refine below_drewN ?_ _) | (with_reducible refine Below.trans ?_ (Below.mono (by with_reducible assumption) ?_)) | go_size | (simp at *; omega)))⟩
      · have i1 : ¬ (i : Int) < (L.length : Int) := by omega
        have e : i = L.length := by omega
        have HI2 : Hid (-1 = R) := Lib.hid (by rw [← HI.out, e, HE.out])
        clear e
        go_wp2_with fail
        go_ret
        exact ⟨ret_int HI2.out, (by repeat' (first | (with_reducible exact Below.refl _ _) | (with_reducible assumption) | (with_reducible refine Below.setCell ?_ ?_ _) | (with_reducible refine Below.alloc ?_ ?_ _) | (with_reducible refine Below.drew ?_) | (with_reducible refine below_drewN ?_ _) | (with_reducible refine Below.trans ?_ (Below.mono (by with_reducible assumption) ?_)) | go_size | (simp at *; omega)))⟩
end Go.Proofs.Ytdbbjmcfpfalhaa
