/-
  Operations of a disk that came in, out of how the argument reads.
-/
import Derived.Test.YtgbfbijjbkfglaaDiskS
import Derived.Test.YtgbfbijjbkfglaaOpen
namespace Go.Proofs.Ytgbfbijjbkfglaa
open Go.RowKit Go.ChangeShapes Go.WideShapes Go.Deep

theorem RA.of_trod {H : Type} {enc : TypeId × Value → H} {P : Program} {w : World} {base : Nat} {spare : Nat → Bool} {held : Bool} {t e : TypeId} {fuel : Nat} {v : Value} {x : DataW H × List MemPlace}
    (ht : P.underlying t = some (.slice e)) (he : P.underlying e = some (.int .u8)) (hc : P.cellsOf e = 1) (h : DataW.trod enc P w base spare held fuel t [v] = some x) : ∃ l, RA w v l := by
  rcases open_ints ht he hc h with ⟨hcs, _⟩ | ⟨a, l, c, zs, hcs, _, hl, hm, hz, _, hcell, hwz⟩
  · simp at hcs; subst hcs; exact ⟨[], .inl ⟨rfl, rfl⟩⟩
  · simp at hcs
    subst hcs
    refine ⟨((zs.take l).map fun z => UInt8.ofNat z.toNat), .inr ⟨a, c, ?_, ?_, hm, fun j hj => ?_⟩⟩
    · simp; split at hz <;> omega
    · simp; omega
    · simp only [List.length_map, List.length_take] at hj
      have hjz : j < zs.length := by omega
      rw [hcell j hjz]
      have hw := hwz (zs.getD j 0) (by rw [List.getD_eq_getElem?_getD, List.getElem?_eq_getElem hjz]; exact List.getElem_mem _)
      have hr : 0 ≤ zs.getD j 0 ∧ zs.getD j 0 ≤ 255 := by
        generalize zs.getD j 0 = z at hw
        simp only [Lit.wf] at hw
        simp [IntKind.min, IntKind.max, IntKind.signed, IntKind.bits] at hw
        omega
      have hg : ((zs.take l).map fun z => UInt8.ofNat z.toNat).getD j 0 = UInt8.ofNat (zs.getD j 0).toNat := by
        simp only [List.getD_eq_getElem?_getD, List.getElem?_map, List.getElem?_take]
        rw [if_pos (by omega), List.getElem?_eq_getElem hjz]; rfl
      rw [hg]
      unfold by8
      generalize zs.getD j 0 = z at hr ⊢
      rw [UInt8.toNat_ofNat']
      congr 2
      omega
theorem RO.of_trod {H : Type} {enc : TypeId × Value → H} {w : World} {base : Nat} {spare : Nat → Bool} {held : Bool} {fuel : Nat} {a : Option Addr} {len cap : Nat} {x : DataW H × List MemPlace}
    (h : DataW.trod enc Try.prog w base spare held fuel 33 [.slice a len cap] = some x) : RO w a len := by
  rcases open_structs Try.underlying33 Try.underlying39 (by kernel_rfl) (by kernel_rfl) h with hcs | ⟨ad, l, c, hcs, hl, hm, hi⟩
  · simp at hcs; exact .inl ⟨hcs.1, hcs.2.1⟩
  · simp at hcs
    obtain ⟨rfl, rfl, rfl⟩ := hcs
    refine .inr ⟨ad, rfl, fun i hil => ?_⟩
    obtain ⟨v0, y0, n0, c0, t0⟩ := hi i hil 0 _ rfl
    obtain ⟨v1, y1, n1, c1, t1⟩ := hi i hil 1 _ rfl
    obtain ⟨v2, y2, n2, c2, t2⟩ := hi i hil 2 _ rfl
    obtain ⟨v3, y3, n3, c3, t3⟩ := hi i hil 3 _ rfl
    obtain ⟨z0, e0, _, w0⟩ := DataW.trod_int Try.underlying3 t0
    obtain ⟨z1, e1, _, w1⟩ := DataW.trod_int Try.underlying3 t1
    obtain ⟨s2, e2, _, w2⟩ := DataW.trod_string Try.underlying9 t2
    obtain ⟨l3, r3⟩ := RA.of_trod Try.underlying22 Try.underlying5 (by kernel_rfl) t3
    simp at e0 e1 e2
    subst e0 e1 e2
    exact ⟨z0, z1, s2, v3, l3, by simpa [Addr.add] using c0, by simpa [Addr.add] using c1, by simpa [Addr.add] using c2, by simpa [Addr.add] using c3, wf64 w0, wf64 w1, w2, r3⟩
end Go.Proofs.Ytgbfbijjbkfglaa
