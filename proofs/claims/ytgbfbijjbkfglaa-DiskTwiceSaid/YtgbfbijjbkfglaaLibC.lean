/-
  How long a slice is; States under frames.
-/
import Derived.Test.YtgbfbijjbkfglaaLibB
namespace Go.Proofs.Ytgbfbijjbkfglaa
open Go.RowKit

section
variable {P : Program} {ops : Array Oper} {rest : List Oper} {o : Oper} {a : Act} {w : World} {Q : Exit → Act → World → Prop}
/-- How long a slice is. -/
theorem wpList_len (hgd : o.guard = none) (x : Operand) (ty te : TypeId) (ho : o.op = .call { callee := .builtin .len, args := #[x], argTypes := #[ty] })
    (hu : P.underlying ty = some (.slice te)) (v : Value) (s n : Nat) (xs : List Value) (hr : Rd s w v n xs) (hx : a.eval x = v)
    (h : wpList P ops Q rest (a.put o.dst (.int .i64 n)) w) : wpList P ops Q (o :: rest) a w := by
  refine wpList_plain hgd fun K hK => ?_
  unfold Oper.wp execOp
  rcases hr.shape with ⟨rfl, rfl, _⟩ | ⟨g, off, cap, rfl, _⟩
  all_goals
    simp only [ho, resolve, invoke, builtin, Sem.run_bind, Sem.run_pure, Result.andThen_ok, List.map_toArray, List.map_cons, List.map_nil, hx]
    simp [Builtin.len_, run_underlying hu, goInt]
    exact hK _ _ h
end
theorem Gw.fresh {w w0 w' : World} {v0 v' : Value} (h0 : No w w0) (hv : ∀ k, v0.ownBlock = some k → w.heap.size ≤ k) (h : Gw w0 v0 w' v') : No w w' ∧ ∀ k, v'.ownBlock = some k → w.heap.size ≤ k := by
  refine ⟨h0.trans h.fr fun i hi e => ?_, fun k hk => ?_⟩
  · have := hv i e.symm; omega
  · rcases h.own with e | ⟨j, e, hj⟩
    · exact hv k (by rw [← e]; exact hk)
    · have := h0.size
      rw [e] at hk
      injection hk with hk
      omega
theorem OB.one (base : Nat) (w : World) (e : TypeId) (x : Value) (c : UInt8) (hx : x = .int .u8 (by8 c)) : OB base (w.alloc (.cells #[x] e)) (.slice (some ⟨w.heap.size, 0, none⟩) 1 1) [c] := by
  subst hx
  exact ⟨rfl, bs_one, .inr ⟨w.heap.size, 0, 1, _, e, (0, 0), rfl, heap_alloc_new w _, rfl, Nat.le_refl _, by unfold maxLen; omega, .inl rfl⟩⟩
end Go.Proofs.Ytgbfbijjbkfglaa
