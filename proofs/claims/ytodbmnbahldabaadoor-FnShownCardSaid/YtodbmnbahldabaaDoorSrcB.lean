/- The source of choices, more: what stands, numbers written out. -/
import Derived.Test.YtodbmnbahldabaaDoorSrc
namespace Go.Proofs.YtodbmnbahldabaaDoor
open Go.ChangeShapes Go.WideShapes Go.ChangeAt Go.RowKit
set_option linter.unusedVariables false
set_option maxHeartbeats 8000000
set_option maxRecDepth 20000
theorem gbSetNew {w a : World} {r : Option Nat} {b i : Nat} {u : Value} (h : w.grownBy a r) (hb : w.heap.size ≤ b) : w.grownBy (a.setCell ⟨b, i, none⟩ u) r :=
  ⟨h.os, h.tape, h.output, by simp [World.setCell]; exact h.size, fun k hk hne => (heap_setCell_other a ⟨b, i, none⟩ k u (by show k ≠ b; omega)).trans (h.block k hk hne)⟩
theorem gbRow {w a b : World} {r row : Option Nat} (h : w.grownBy a r) (hg : a.grownBy b row) (hr : ∀ k, row = some k → w.heap.size ≤ k) : w.grownBy b r :=
  ⟨hg.os.trans h.os, hg.tape.trans h.tape, hg.output.trans h.output, Nat.le_trans h.size hg.size, fun k hk hne => (hg.block k (Nat.lt_of_lt_of_le hk h.size) (fun e => by have := hr k e.symm; omega)).trans (h.block k hk hne)⟩
theorem Src.set {w : World} {g b i : Nat} {v u : Value} {M : Int} (h : Src w g v M) (hb : g ≠ b) : Src (w.setCell ⟨b, i, none⟩ u) g v M := by
  obtain ⟨a, s, h1, h2, h3, h4⟩ := h
  exact ⟨a, s, h1, h2, h3, (heapAt_set_other hb).trans h4⟩
theorem Src.alloc {w : World} {g : Nat} {v : Value} {M : Int} (h : Src w g v M) (o : Obj) : Src (w.alloc o) g v M := h.below (Below.alloc (Below.refl w.heap.size w) (Nat.le_refl _) o) h.lt
theorem Src.drew {w : World} {g : Nat} {v : Value} {M : Int} (h : Src w g v M) : Src w.drew g v M := h
theorem Src.drewN {w : World} {g : Nat} {v : Value} {M : Int} (h : Src w g v M) (n : Nat) : Src (w.drewN n) g v M := h
theorem Src.row {w a : World} {g : Nat} {v : Value} {M : Int} {row : Option Nat} (h : Src w g v M) (hg : w.grownBy a row) (hr : row ≠ some g) : Src a g v M := by
  have hz := h.lt
  obtain ⟨x, s, h1, h2, h3, h4⟩ := h
  exact ⟨x, s, h1, h2, h3, (hg.block g hz (fun e => hr e.symm)).trans h4⟩
theorem lit_cells {w : World} {b : Nat} {T : TypeId} {fr : Nat × Nat} (L : List Int) (lo hi : Int) (h : heapAt w b = some (.cells ((L.map (Value.int .i64)).toArray) T fr)) (hb : ∀ x ∈ L, lo ≤ x ∧ x ≤ hi) :
    ∀ j, j < L.length → ∃ x, lo ≤ x ∧ x ≤ hi ∧ w.cell? ⟨b, j, none⟩ = some (.int .i64 x) := by
  intro j hj
  have h2 := hb _ (List.getElem_mem hj)
  refine ⟨L[j], h2.1, h2.2, ?_⟩
  rw [cell_of_row w b j _ T fr h]
  simp [hj]
theorem amongL (L : List Int) (lo hi : Int) (hL : ∀ x ∈ L, lo ≤ x ∧ x ≤ hi) (m : Nat) (hm : L.length = m) (hm1 : 1 ≤ m ∧ m ≤ 1000) (T : TypeId) (g : Nat) (ao : Option Addr) (n cap : Nat) (M : Int) (w : World) (hs : Src w g (.slice ao n cap) M) (hM : M ≤ 900000) (hr : ByteRow w ao n g) (hn : n ≤ 4096) :
    Calls Tryd.prog 40 #[.pointer (some ⟨g, 0, none⟩), .slice (some ⟨w.heap.size, 0, none⟩) m m] (w.alloc (.cells ((L.map (Value.int .i64)).toArray) T)) (RetN g (.slice ao n cap) (M + 2) lo hi w) := by
  subst hm
  have hz := hs.lt
  refine (among_any g ao n cap M _ (hs.alloc _) hM (hr.below (Below.alloc (Below.refl w.heap.size w) (Nat.le_refl _) _) (by omega)) hn L w.heap.size L.length L.length lo hi (lit_cells L lo hi (heapAt_new w _) hL) hm1 (by omega) (by simp)).mono ?_
  rintro e w1 ⟨x, h1, h2, h3, h4, h5⟩
  exact ⟨x, h1, h2, h3, h4, gbTrans (gbAlloc (gbRefl _ _) _) h5⟩
theorem hpG {w w' : World} {b g : Nat} {o : Obj} (h : heapAt w b = some o) (hg : w.grownBy w' (some g)) (hb : b ≠ g) : heapAt w' b = some o :=
  (hg.block b (blk_lt h) (fun e => hb (Option.some.inj e))).trans h

theorem Below.ofGrown {w a w' : World} {g : Nat} (hb : Below w.heap.size w a) (hg : a.grownBy w' (some g)) (hz : w.heap.size ≤ g) : Below w.heap.size w w' :=
  hb.grown hg hb.size (fun k hk => by cases hk; exact hz)
theorem blkK {w w' : World} {b k : Nat} {cs : Array Value} {t : TypeId} (h : heapAt w b = some (.cells cs t (0, 0))) (hb : Below k w w') (hk : b < k) : heapAt w' b = some (.cells cs t (0, 0)) := (hb.block b hk).trans h
theorem from_any (ao : Option Addr) (n cap : Nat) (w : World) :
    Calls Tryd.prog 37 #[.slice ao n cap] w fun e w' => e = .returned (.pointer (some ⟨w.heap.size, 0, none⟩)) ∧ w' = w.alloc (.cells #[.slice ao n cap, .int .i64 0, .int .u64 0] 72) := by
  go_enter Tryd.func37, Tryd.ntmps37
  go_wp2_with fail
  go_ret
  exact ⟨rfl, rfl⟩
theorem from_src (ao : Option Addr) (n cap : Nat) (w : World) : Src (w.alloc (.cells #[.slice ao n cap, .int .i64 0, .int .u64 0] 72)) w.heap.size (.slice ao n cap) 0 :=
  ⟨0, 0, by omega, by omega, by omega, heapAt_new w _⟩
theorem lenU (a : Option Addr) (n c : Nat) (V : World) : Sem.run Tryd.prog (Builtin.len_ #[28] 3 #[.slice a n c]) V = .ok (.int .i64 n) V := by
  simp [Builtin.len_, go_sem]
end Go.Proofs.YtodbmnbahldabaaDoor
