/-
  Arguments of a row: slices of numbers, of bools. Plain laws over any program.
-/
import Derived.Test.YtamkekmaahnbcaaZA
import Derived.Deep.Grids
namespace Go.Proofs.Ytamkekmaahnbcaa
open Go.ChangeShapes Go.WideShapes Go.ChangeAt Go.RowKit Go.Deep

theorem Rd.of_cells {W : World} {g off len cap : Nat} {cur : Array Value} {el : TypeId} {fz : Nat × Nat} (xs : List Value) (hg : W.heap[g]? = some (.cells cur el fz)) (hx : xs.length = len) (hc : ∀ i u, xs[i]? = some u → W.cell? ⟨g, off + i, none⟩ = some u) (h1 : ∀ u ∈ xs, u.oneCell' = true) (hl : len ≤ cap) (hm : cap ≤ maxLen) :
    Rd 1 W (.slice (some ⟨g, off, none⟩) len cap) len xs := by
  refine ⟨by omega, h1, .inr ⟨g, off, cap, cur, el, fz, rfl, hg, ?_, hl, hm⟩⟩
  rw [Nat.mul_one]
  exact cells_take hg hx hc
/-- Numbers that came in. -/
theorem ints_of_arg {H : Type} {enc : TypeId × Value → H} {P : Program} {W : World} {base b0 : Nat} {sp : Nat → Bool} {hd : Bool} {t e : TypeId} {v : Value} {d : DataW H} {ps : List MemPlace} (ht : P.underlying t = some (.slice e)) (he : P.underlying e = some (.int .i64)) (hc : P.cellsOf e = 1)
    (ok : Value.okWide P W .any base t v) (h : DataW.Trod enc P W b0 sp hd t v d ps) : ∃ zs : List Int, Rd 1 W v zs.length (zs.map (Value.int .i64)) ∧ ∀ z ∈ zs, (Lit.int .i64 z).wf = true := by
  obtain ⟨a, len, cap, rfl⟩ := okWide_slice ht ok
  obtain ⟨fuel, hf⟩ := h
  rcases open_ints ht he hc hf with ⟨hcs, _⟩ | ⟨x, l, c, zs, hcs, _, hl, hm, hz, _, hcell, hwz⟩
  · simp [Value.cells] at hcs
    obtain ⟨rfl, rfl, rfl⟩ := hcs
    exact ⟨[], Rd.nil 1 W, by simp⟩
  · simp [Value.cells] at hcs
    obtain ⟨rfl, rfl, rfl⟩ := hcs
    obtain ⟨g, off, cur, el, fz, rfl, hg⟩ := okWide_block ht ok
    have hzl : len ≤ zs.length := by rw [hz]; split <;> omega
    have hlen : (zs.take len).length = len := by simp; omega
    refine ⟨zs.take len, ?_, fun z hz' => hwz z (List.mem_of_mem_take hz')⟩
    rw [hlen]
    refine Rd.of_cells _ hg (by rw [List.length_map, hlen]) (fun i u hu => ?_) (fun u hu => by obtain ⟨z, _, rfl⟩ := List.mem_map.1 hu; rfl) hl hm
    have hj : i < len := by have := (List.getElem?_eq_some_iff.1 hu).1; rw [List.length_map, hlen] at this; exact this
    have h1 := hcell i (by omega)
    rw [addr_add] at h1
    rw [h1, ← hu, List.getElem?_map, List.getElem?_take, if_pos hj, List.getElem?_eq_getElem (by omega), List.getD_eq_getElem?_getD, List.getElem?_eq_getElem (by omega)]
    rfl
/-- Bools that came in. -/
theorem bools_of_arg {H : Type} {enc : TypeId × Value → H} {P : Program} {W : World} {base b0 : Nat} {hd : Bool} {t e : TypeId} {v : Value} {d : DataW H} {ps : List MemPlace} (ht : P.underlying t = some (.slice e)) (he : P.underlying e = some .bool) (hc : P.cellsOf e = 1)
    (ok : Value.okWide P W .any base t v) (h : DataW.Trod enc P W b0 (fun _ => true) hd t v d ps) : ∃ bl : List Bool, Rd 1 W v bl.length (bl.map Value.bool) := by
  obtain ⟨a, len, cap, rfl⟩ := okWide_slice ht ok
  obtain ⟨fuel, hf⟩ := h
  rcases open_bools ht he hc hf with ⟨hcs, _⟩ | ⟨x, l, c, B, hcs, _, hl, hm, _, hcell⟩
  · simp [Value.cells] at hcs
    obtain ⟨rfl, rfl, rfl⟩ := hcs
    exact ⟨[], Rd.nil 1 W⟩
  · simp [Value.cells] at hcs
    obtain ⟨rfl, rfl, rfl⟩ := hcs
    obtain ⟨g, off, cur, el, fz, rfl, hg⟩ := okWide_block ht ok
    refine ⟨(List.range len).map B, ?_⟩
    have hlen : ((List.range len).map B).length = len := by simp
    rw [hlen]
    refine Rd.of_cells _ hg (by rw [List.length_map, hlen]) (fun i u hu => ?_) (fun u hu => by obtain ⟨z, _, rfl⟩ := List.mem_map.1 hu; rfl) hl hm
    have hj : i < len := by have := (List.getElem?_eq_some_iff.1 hu).1; rw [List.length_map, hlen] at this; exact this
    have h1 := hcell i (by omega)
    rw [addr_add] at h1
    rw [h1, ← hu, List.getElem?_map, List.getElem?_map, List.getElem?_range hj]
    rfl
end Go.Proofs.Ytamkekmaahnbcaa
