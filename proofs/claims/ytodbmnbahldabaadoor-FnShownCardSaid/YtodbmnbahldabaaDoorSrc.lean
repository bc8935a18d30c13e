/- The source of choices: bytes of an argument, then a simple sequence; what each call hands back lies within bounds. -/
import Derived.Test.YtodbmnbahldabaaDoorMem
import Derived.BigQuiet
import Derived.OpenShut
import Derived.Laws.Bits64b
import Derived.IntWalk
namespace Go.Proofs.YtodbmnbahldabaaDoor
open Go.ChangeShapes Go.WideShapes Go.ChangeAt Go.RowKit
set_option linter.unusedVariables false
set_option maxHeartbeats 8000000
set_option maxRecDepth 20000
/-- An argument's row of numbers, as its reading gives it. -/
def IsRow (k : IntKind) (w : World) (a : Option Addr) (len cap : Nat) (zs : List Int) : Prop :=
  (a = none ∧ len = 0 ∧ cap = 0 ∧ zs = []) ∨ ∃ x, a = some x ∧ len ≤ cap ∧ cap ≤ maxLen ∧ zs.length = cap ∧ (∀ i, i < zs.length → w.cell? (x.add i) = some (.int k (zs.getD i 0))) ∧ (∀ n ∈ zs, (Lit.int k n).wf = true)
/-- A row of bytes below block B. -/
def ByteRow (w : World) (a : Option Addr) (len B : Nat) : Prop := ∀ j, j < len → ∃ (b off : Nat) (x : Int), a = some ⟨b, off, none⟩ ∧ b < B ∧ 0 ≤ x ∧ x ≤ 255 ∧ w.cell? ⟨b, off + j, none⟩ = some (.int .u8 x)
theorem cell_lt {w : World} {b o : Nat} {v : Value} (h : w.cell? ⟨b, o, none⟩ = some v) : b < w.heap.size := by
  rcases Nat.lt_or_ge b w.heap.size with h1 | h1
  · exact h1
  · have e : w.heap[b]? = none := Array.getElem?_eq_none h1
    simp [World.cell?, e] at h
theorem wf_u8 {x : Int} (h : (Lit.int .u8 x).wf = true) : 0 ≤ x ∧ x ≤ 255 := by
  have e1 : IntKind.u8.min = 0 := by decide
  have e2 : IntKind.u8.max = 255 := by decide
  simp [Lit.wf, e1, e2] at h
  omega
theorem IsRow.bytes {w : World} {a : Option Addr} {len cap : Nat} {zs : List Int} (h : IsRow .u8 w a len cap zs) : ByteRow w a len w.heap.size := by
  rcases h with ⟨-, rfl, -, -⟩ | ⟨x, rfl, hl, -, hz, hc, hw⟩
  · intro j hj; omega
  · intro j hj
    obtain ⟨b, off, rfl, hcell⟩ := ints_at hc (by omega)
    have h1 := hcell j (by omega)
    have h2 : zs.getD j 0 ∈ zs := by rw [List.getD_eq_getElem?_getD, List.getElem?_eq_getElem (by omega)]; exact List.getElem_mem _
    have h3 := wf_u8 (hw _ h2)
    exact ⟨b, off, _, rfl, cell_lt h1, h3.1, h3.2, h1⟩
theorem ByteRow.below {w w' : World} {a : Option Addr} {len B C : Nat} (h : ByteRow w a len B) (hb : Below C w w') (hC : B ≤ C) : ByteRow w' a len B := by
  intro j hj
  obtain ⟨b, off, x, h1, h2, h3, h4, h5⟩ := h j hj
  exact ⟨b, off, x, h1, h2, h3, h4, (hb.cell (by show b < C; omega)).trans h5⟩
theorem ByteRow.mono {w : World} {a : Option Addr} {len B C : Nat} (h : ByteRow w a len B) (hC : B ≤ C) : ByteRow w a len C := by
  intro j hj
  obtain ⟨b, off, x, h1, h2, h3, h4, h5⟩ := h j hj
  exact ⟨b, off, x, h1, by omega, h3, h4, h5⟩
/-- The source in block g. -/
def Src (w : World) (g : Nat) (v : Value) (M : Int) : Prop := ∃ (a : Nat) (s : Int), a ≤ M ∧ 0 ≤ s ∧ s ≤ 18446744073709551615 ∧ heapAt w g = some (.cells #[v, .int .i64 a, .int .u64 s] 72 (0, 0))
theorem Src.mono {w : World} {g : Nat} {v : Value} {M M' : Int} (h : Src w g v M) (hM : M ≤ M') : Src w g v M' := by
  obtain ⟨a, s, h1, h2⟩ := h
  exact ⟨a, s, by omega, h2⟩
theorem Src.below {w w' : World} {g C : Nat} {v : Value} {M : Int} (h : Src w g v M) (hb : Below C w w') (hC : g < C) : Src w' g v M := by
  obtain ⟨a, s, h1, h2, h3, h4⟩ := h
  exact ⟨a, s, h1, h2, h3, (hb.block g hC).trans h4⟩
theorem Src.lt {w : World} {g : Nat} {v : Value} {M : Int} (h : Src w g v M) : g < w.heap.size := by
  obtain ⟨a, s, h1, h2, h3, h4⟩ := h
  exact blk_lt h4
/-- A number within bounds, and the source one choice on. -/
def RetN (g : Nat) (v : Value) (M lo hi : Int) (w : World) (e : Ending) (w' : World) : Prop :=
  ∃ x : Int, e = .returned (.int .i64 x) ∧ lo ≤ x ∧ x ≤ hi ∧ Src w' g v M ∧ w.grownBy w' (some g)
theorem gbRefl (w : World) (r : Option Nat) : w.grownBy w r := ⟨rfl, rfl, rfl, Nat.le_refl _, fun _ _ _ => rfl⟩
theorem gbSet {w a : World} {g i : Nat} {u : Value} (h : w.grownBy a (some g)) : w.grownBy (a.setCell ⟨g, i, none⟩ u) (some g) :=
  ⟨h.os, h.tape, h.output, by simp [World.setCell]; exact h.size, fun k hk hne => (heap_setCell_other a ⟨g, i, none⟩ k u (fun e => hne (by rw [e]))).trans (h.block k hk hne)⟩
theorem gbDrew {w a : World} {r : Option Nat} (n : Nat) (h : w.grownBy a r) : w.grownBy (a.drewN n) r := ⟨h.os, h.tape, h.output, h.size, h.block⟩
theorem gbDrew1 {w a : World} {r : Option Nat} (h : w.grownBy a r) : w.grownBy a.drew r := ⟨h.os, h.tape, h.output, h.size, h.block⟩
theorem gbBelow {w a b : World} {r : Option Nat} (h : w.grownBy a r) (hb : Below a.heap.size a b) : w.grownBy b r :=
  ⟨hb.os.trans h.os, hb.tape.trans h.tape, hb.output.trans h.output, Nat.le_trans h.size hb.size, fun k hk hne => (hb.block k (Nat.lt_of_lt_of_le hk h.size)).trans (h.block k hk hne)⟩
theorem gbTrans {a b c : World} {row : Option Nat} (h : a.grownBy b row) (k : b.grownBy c row) : a.grownBy c row :=
  ⟨k.os.trans h.os, k.tape.trans h.tape, k.output.trans h.output, Nat.le_trans h.size k.size, fun i hi hne => (k.block i (Nat.lt_of_lt_of_le hi h.size) hne).trans (h.block i hi hne)⟩
theorem gbAlloc {w a : World} {r : Option Nat} (h : w.grownBy a r) (o : Obj) : w.grownBy (a.alloc o) r := gbBelow h (Below.alloc (Below.refl _ _) (Nat.le_refl _) o)
theorem wrapU (x : Int) : 0 ≤ IntKind.u64.wrap x ∧ IntKind.u64.wrap x ≤ 18446744073709551615 := by
  have e1 : IntKind.u64.min = 0 := by decide
  have e2 : IntKind.u64.max = 18446744073709551615 := by decide
  have h := wf_wrap IntKind.u64 x
  simp [Lit.wf, e1, e2] at h
  exact h
theorem byteOf {S : Int} (h : 0 ≤ S ∧ S ≤ 18446744073709551615) : 0 ≤ wrap64 (bits .and .u64 (S / 1099511627776) 255) ∧ wrap64 (bits .and .u64 (S / 1099511627776) 255) ≤ 255 := by
  obtain ⟨k, hk⟩ := Int.eq_ofNat_of_zero_le (a := S / 1099511627776) (by omega)
  have h2 := bits_and_u64_nat k 255 (by omega) (by omega)
  rw [hk]
  have e : bits .and .u64 ((k : Nat) : Int) 255 = ((k &&& 255 : Nat) : Int) := h2
  have h3 : k &&& 255 ≤ 255 := Nat.and_le_right
  rw [e]
  generalize k &&& 255 = m at *
  have e2 : wrap64 (m : Int) = m := IntWalk.wrap64_in (m : Int) (by omega)
  rw [e2]
  omega
theorem Src.put {w : World} {g k : Nat} {s : Int} {v : Value} (M : Int) (h : heapAt w g = some (.cells #[v, .int .i64 k, .int .u64 s] 72 (0, 0))) (hk : k ≤ M) (hs : 0 ≤ s ∧ s ≤ 18446744073709551615) : Src w g v M :=
  ⟨k, s, hk, hs.1, hs.2, h⟩
theorem next_any (g : Nat) (ao : Option Addr) (n cap : Nat) (M : Int) (w : World) (hs : Src w g (.slice ao n cap) M) (hM : M ≤ 1000000) (hr : ByteRow w ao n g) (hn : n ≤ 4096) :
    Calls Tryd.prog 60 #[.pointer (some ⟨g, 0, none⟩)] w (RetN g (.slice ao n cap) (M + 1) 0 255 w) := by
  obtain ⟨k, s, k1, s0, s1, hg⟩ := hs
  obtain ⟨zg, p1, p2, p3, f1, f2, f3⟩ := blk3 hg
  by_cases hlt : k < n
  · obtain ⟨b, off, x, rfl, hb, hx0, hx1, hc⟩ := hr k hlt
    have i1 : (k : Int) < (n : Int) := by omega
    have hbg : b ≠ g := by omega
    go_enter Tryd.func60, Tryd.ntmps60
    go_wp2_with fail
    go_quiet (fail)
    go_wp2_with fail
    revert nq
    intro q1
    go_quiet (fail)
    go_wp2_with fail
    have hS := wrapU (IntKind.u64.wrap (IntKind.u64.wrap (s * 6364136223846793005) + x) + 1442695040888963407)
    generalize IntKind.u64.wrap (IntKind.u64.wrap (IntKind.u64.wrap (s * 6364136223846793005) + x) + 1442695040888963407) = S at *
    obtain ⟨V, hV⟩ : ∃ V, V = ((w.drewN (q1 + nq)).setCell ⟨g, 1, none⟩ (.int .i64 (k + 1))).setCell ⟨g, 2, none⟩ (.int .u64 S) := ⟨_, rfl⟩
    have gV : heapAt V g = some (.cells #[.slice (some ⟨b, off, none⟩) n cap, .int .i64 ((k + 1 : Nat) : Int), .int .u64 S] 72 (0, 0)) := by rw [hV]; simp [hg, setO]
    have hgr : w.grownBy V (some g) := by rw [hV]; exact gbSet (gbSet (gbDrew _ (gbRefl _ _)))
    rw [← hV]
    clear hV p1 p2 p3 f1 f2 f3 hc hr hg
    obtain ⟨zV, p1, p2, p3, f1, f2, f3⟩ := blk3 gV
    have i2 : ((k + 1 : Nat) : Int) ≤ (n : Int) := by omega
    go_quiet (fail)
    go_wp2_with fail
    go_ret
    exact ⟨x, rfl, hx0, hx1, Src.put _ gV (by omega) hS, gbDrew _ hgr⟩
  · have i1 : ¬ (k : Int) < (n : Int) := by omega
    go_enter Tryd.func60, Tryd.ntmps60
    go_wp2_with fail
    go_quiet (fail)
    go_wp2_with fail
    have hS := wrapU (IntKind.u64.wrap (IntKind.u64.wrap (s * 6364136223846793005)) + 1442695040888963407)
    generalize IntKind.u64.wrap (IntKind.u64.wrap (IntKind.u64.wrap (s * 6364136223846793005)) + 1442695040888963407) = S at *
    obtain ⟨V, hV⟩ : ∃ V, V = ((w.drewN nq).setCell ⟨g, 1, none⟩ (.int .i64 (k + 1))).setCell ⟨g, 2, none⟩ (.int .u64 S) := ⟨_, rfl⟩
    have gV : heapAt V g = some (.cells #[.slice ao n cap, .int .i64 ((k + 1 : Nat) : Int), .int .u64 S] 72 (0, 0)) := by rw [hV]; simp [hg, setO]
    have hgr : w.grownBy V (some g) := by rw [hV]; exact gbSet (gbSet (gbDrew _ (gbRefl _ _)))
    rw [← hV]
    clear hV p1 p2 p3 f1 f2 f3 hr hg
    obtain ⟨zV, p1, p2, p3, f1, f2, f3⟩ := blk3 gV
    have i2 : ¬ ((k + 1 : Nat) : Int) ≤ (n : Int) := by omega
    revert nq
    intro q1
    go_quiet (fail)
    go_wp2_with fail
    go_ret
    exact ⟨_, rfl, (byteOf hS).1, (byteOf hS).2, Src.put _ gV (by omega) hS, gbDrew _ hgr⟩
theorem ByteRow.grown {w w' : World} {a : Option Addr} {len g : Nat} (h : ByteRow w a len g) (hg : w.grownBy w' (some g)) (hz : g < w.heap.size) : ByteRow w' a len g := by
  intro j hj
  obtain ⟨b, off, x, h1, h2, h3, h4, h5⟩ := h j hj
  exact ⟨b, off, x, h1, h2, h3, h4, (World.cell?_of_block (w := w) (a := ⟨b, off + j, none⟩) (hg.block b (by omega) (fun e => by simp at e; omega))).trans h5⟩
theorem kmod {x k : Int} (hx : 0 ≤ x) (hk : 1 ≤ k) : 0 ≤ x % k ∧ x % k ≤ k - 1 :=
  ⟨Int.emod_nonneg x (by omega : k ≠ 0), by have := Int.emod_lt_of_pos x (by omega : 0 < k); omega⟩
/-- A number from 0 to n - 1. -/
theorem pick_any (k : Int) (g : Nat) (ao : Option Addr) (n cap : Nat) (M : Int) (w : World) (hs : Src w g (.slice ao n cap) M) (hM : M ≤ 900000) (hr : ByteRow w ao n g) (hn : n ≤ 4096) (hk : 1 ≤ k ∧ k ≤ 9223372036854775807) :
    Calls Tryd.prog 41 #[.pointer (some ⟨g, 0, none⟩), .int .i64 k] w (RetN g (.slice ao n cap) (M + 2) 0 (k - 1) w) := by
  have hz := hs.lt
  have NX := Lib.hid (fun w M h1 h2 h3 => next_any g ao n cap M w h1 h2 h3 hn)
  have HS := Lib.hid hs
  have HR := Lib.hid hr
  clear hs hr
  by_cases h1 : k ≤ 1
  · go_enter Tryd.func41, Tryd.ntmps41
    go_wp2_with fail
    go_ret
    exact ⟨0, rfl, by omega, by omega, HS.out.mono (by omega), gbRefl _ _⟩
  · by_cases h2 : k > 200
    · go_enter Tryd.func41, Tryd.ntmps41
      go_wp2_with fail
      refine (NX.out _ _ HS.out (by omega) HR.out).mono ?_
      rintro e w1 ⟨x, rfl, x0, x1, s1, g1⟩
      have S1 := Lib.hid s1
      have G1 := Lib.hid g1
      clear s1 g1
      go_wp2_with fail
      refine (NX.out _ _ S1.out (by omega) (HR.out.grown G1.out hz)).mono ?_
      rintro e w2 ⟨y, rfl, y0, y1, s2, g2⟩
      have S2 := Lib.hid s2
      have G2 := Lib.hid g2
      clear s2 g2
      have hm := kmod (x := x * 256 + y) (k := k) (by omega) hk.1
      go_wp2_with fail
      go_ret
      exact ⟨_, rfl, hm.1, hm.2, S2.out.mono (by omega), gbTrans G1.out G2.out⟩
    · go_enter Tryd.func41, Tryd.ntmps41
      go_wp2_with fail
      refine (NX.out _ _ HS.out (by omega) HR.out).mono ?_
      rintro e w1 ⟨x, rfl, x0, x1, s1, g1⟩
      have S1 := Lib.hid s1
      have G1 := Lib.hid g1
      clear s1 g1
      have hm := kmod (x := x) (k := k) (by omega) hk.1
      go_wp2_with fail
      go_ret
      exact ⟨_, rfl, hm.1, hm.2, S1.out.mono (by omega), G1.out⟩
/-- A choice of yes or no, and the source one choice on. -/
def RetB (g : Nat) (v : Value) (M : Int) (w : World) (e : Ending) (w' : World) : Prop :=
  ∃ b : Bool, e = .returned (.bool b) ∧ Src w' g v M ∧ w.grownBy w' (some g)
theorem one_any (k : Int) (g : Nat) (ao : Option Addr) (n cap : Nat) (M : Int) (w : World) (hs : Src w g (.slice ao n cap) M) (hM : M ≤ 900000) (hr : ByteRow w ao n g) (hn : n ≤ 4096) (hk : 1 ≤ k ∧ k ≤ 9223372036854775807) :
    Calls Tryd.prog 39 #[.pointer (some ⟨g, 0, none⟩), .int .i64 k] w (RetB g (.slice ao n cap) (M + 2) w) := by
  have PK := Lib.hid (pick_any k g ao n cap M w hs hM hr hn hk)
  clear hs hr
  go_enter Tryd.func39, Tryd.ntmps39
  go_wp2_with fail
  refine PK.out.mono ?_
  rintro e w1 ⟨x, rfl, x0, x1, s1, g1⟩
  have S1 := Lib.hid s1
  have G1 := Lib.hid g1
  clear s1 g1
  go_wp2_with fail
  go_ret
  exact ⟨_, rfl, S1.out, G1.out⟩
theorem among_any (g : Nat) (ao : Option Addr) (n cap : Nat) (M : Int) (w : World) (hs : Src w g (.slice ao n cap) M) (hM : M ≤ 900000) (hr : ByteRow w ao n g) (hn : n ≤ 4096)
    (L : List Int) (b m c : Nat) (lo hi : Int) (hL : ∀ j, j < m → ∃ x, lo ≤ x ∧ x ≤ hi ∧ w.cell? ⟨b, j, none⟩ = some (.int .i64 x)) (hm : 1 ≤ m ∧ m ≤ 1000) (hb : b ≠ g) (hbz : b < w.heap.size) :
    Calls Tryd.prog 40 #[.pointer (some ⟨g, 0, none⟩), .slice (some ⟨b, 0, none⟩) m c] w (RetN g (.slice ao n cap) (M + 2) lo hi w) := by
  have PK := Lib.hid (pick_any m g ao n cap M w hs hM hr hn (by omega))
  have HL := Lib.hid hL
  clear hs hr hL
  go_enter Tryd.func40, Tryd.ntmps40
  go_wp2_with fail
  refine PK.out.mono ?_
  rintro e w1 ⟨x, rfl, x0, x1, s1, g1⟩
  have S1 := Lib.hid s1
  have G1 := Lib.hid g1
  clear s1 g1
  obtain ⟨j, rfl⟩ := Int.eq_ofNat_of_zero_le x0
  obtain ⟨y, y0, y1, hy⟩ := HL.out j (by omega)
  have hy1 : w1.cell? ⟨b, j, none⟩ = some (.int .i64 y) := (World.cell?_of_block (w := w) (a := ⟨b, j, none⟩) (G1.out.block b hbz (fun e => by simp at e; omega))).trans hy
  have j1 : (j : Int) < (m : Int) := by omega
  go_wp2_with fail
  go_ret
  exact ⟨y, rfl, y0, y1, S1.out, G1.out⟩
end Go.Proofs.YtodbmnbahldabaaDoor
