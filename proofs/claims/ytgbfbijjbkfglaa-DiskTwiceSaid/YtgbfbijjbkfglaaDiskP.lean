/-
  The walk of DiskFull. (Under way: not built.)
-/
import Derived.Test.YtgbfbijjbkfglaaDiskO
namespace Go.Proofs.Ytgbfbijjbkfglaa
open Go.RowKit Go.Maps

/-- Noughts. -/
def nought (n : Nat) : List UInt8 := List.replicate n 0
theorem nought_add (a b : Nat) : nought a ++ nought b = nought (a + b) := by simp [nought, List.replicate_append_replicate]
theorem nought_len (n : Nat) : (nought n).length = n := by simp [nought]
theorem nought_take (n k : Nat) (h : k ≤ n) : (nought n).take k = nought k := by simp [nought, List.take_replicate, Nat.min_eq_left h]

/-- 'make([]byte, n)': noughts, in a new block. -/
theorem run_make_bytes (w : World) (n : Nat) (hn : n ≤ 16777216) : ∃ w', (Instr.makeSlice 22 (.int .i64 n) (.int .i64 n)).run Try.prog w = .ok (.slice (some ⟨w.heap.size, 0, none⟩) n n) w' ∧ No w w' ∧ RB w' (.slice (some ⟨w.heap.size, 0, none⟩) n n) (nought n) := by
  obtain ⟨i, hi, hz, hs, hb⟩ := info_parts Try.info5
  have := run_makeSlice (P := Try.prog) w 22 5 i _ Try.underlying22 hi hz .i64 .i64 n n (by omega) (by omega) (by rw [hs]; simp; omega) (by rw [hb]; omega) (by omega)
  rw [hs] at this
  simp only [Int.toNat_natCast, Nat.mul_one] at this
  have hc : madeCells (Value.int .u8 0).cells n = (bs (nought n)).toArray := by
    apply Array.toList_inj.1
    rw [show (Value.int .u8 0).cells = #[.int .u8 0] from rfl, toList_madeCells_one]
    simp [bs, nought, by8]
  rw [hc] at this
  exact ⟨_, this, (Fr.refl _ _).alloc _, RB.made w 5 (nought n) n (0, 0) (nought_len n) (by omega)⟩
/-- The world behind 'make([]byte, n)'. -/
def mkW (w : World) (n : Nat) : World := w.alloc (.cells (bs (nought n)).toArray 5)
theorem mkW_no (w : World) (n : Nat) : No w (mkW w n) := (Fr.refl _ _).alloc _
theorem mkW_rb (w : World) (n : Nat) (hn : n ≤ 16777216) : RB (mkW w n) (.slice (some ⟨w.heap.size, 0, none⟩) n n) (nought n) := RB.made w 5 (nought n) n (0, 0) (nought_len n) (by omega)
theorem run_mkW (w : World) (n : Nat) (hn : n ≤ 16777216) : (Instr.makeSlice 22 (.int .i64 n) (.int .i64 n)).run Try.prog w = .ok (.slice (some ⟨w.heap.size, 0, none⟩) n n) (mkW w n) := by
  obtain ⟨i, hi, hz, hs, hb⟩ := info_parts Try.info5
  have := run_makeSlice (P := Try.prog) w 22 5 i _ Try.underlying22 hi hz .i64 .i64 n n (by omega) (by omega) (by rw [hs]; simp; omega) (by rw [hb]; omega) (by omega)
  rw [hs] at this
  simp only [Int.toNat_natCast, Nat.mul_one] at this
  have hc : madeCells (Value.int .u8 0).cells n = (bs (nought n)).toArray := by
    apply Array.toList_inj.1
    rw [show (Value.int .u8 0).cells = #[.int .u8 0] from rfl, toList_madeCells_one]
    simp [bs, nought, by8]
  rw [hc] at this
  exact this
end Go.Proofs.Ytgbfbijjbkfglaa
