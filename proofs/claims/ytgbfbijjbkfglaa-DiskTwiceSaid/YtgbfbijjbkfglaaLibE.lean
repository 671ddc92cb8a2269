/-
  Bytes that lie in a block of their own, which may be written: 'append' onto nothing.
-/
import Derived.Test.YtgbfbijjbkfglaaLibC
namespace Go.Proofs.Ytgbfbijjbkfglaa
open Go.RowKit

/-- Bytes in a row of their own: it may be written. -/
def OWr (w : World) (v : Value) (l : List UInt8) : Prop := (v = .slice none 0 0 ∧ l = []) ∨
  ∃ g cap cur e, v = .slice (some ⟨g, 0, none⟩) l.length cap ∧ w.heap[g]? = some (.cells cur e (0, 0)) ∧ cur.toList.take l.length = bs l ∧ l.length ≤ cap ∧ cap ≤ maxLen ∧ cap ≤ cur.size
theorem OWr.nil (w : World) : OWr w (.slice none 0 0) [] := .inl ⟨rfl, rfl⟩
theorem OWr.ob {w : World} {v : Value} {l : List UInt8} (h : OWr w v l) : OB 0 w v l := by
  rcases h with ⟨rfl, rfl⟩ | ⟨g, cap, cur, e, rfl, h1, h2, h3, h4, h5⟩
  · exact OB.nil _ _
  · exact ⟨by simp [bs_length], bs_one, .inr ⟨g, 0, cap, cur, e, (0, 0), rfl, h1, by simpa using h2, h3, h4, .inr ⟨Nat.zero_le _, rfl, by simpa using h5⟩⟩⟩
theorem OWr.keep {w w' : World} {v : Value} {l : List UInt8} (h : OWr w v l) (hk : ∀ k, v.ownBlock = some k → w'.heap[k]? = w.heap[k]?) : OWr w' v l := by
  rcases h with h | ⟨g, cap, cur, e, rfl, h1, h2⟩
  · exact .inl h
  · exact .inr ⟨g, cap, cur, e, rfl, (hk g rfl).trans h1, h2⟩
theorem OWr.no {w w' : World} {v : Value} {l : List UInt8} (h : OWr w v l) (hf : No w w') : OWr w' v l := h.keep fun k e => hf.block k (h.ob.rb.lt k e) id
theorem OWr.fr {S : Nat → Prop} {w w' : World} {v : Value} {l : List UInt8} (h : OWr w v l) (hf : Fr S w w') (hn : ∀ k, v.ownBlock = some k → ¬ S k) : OWr w' v l := h.keep fun k e => hf.block k (h.ob.rb.lt k e) (hn k e)

/-- 'append' onto a slice that holds nothing and has no room. -/
theorem run_append_fresh {P : Program} (w : World) (t tx ty e : TypeId) (ht : P.underlying t = some (.slice e)) (hi : (P.info? e).map (fun i => (i.zero, i.size, i.bytes)) = some (some (.int .u8 0), 1, 1))
    (b : Option Addr) (hb : b = none ∨ ∃ g te, b = some ⟨g, 0, none⟩ ∧ w.heap[g]? = some (.cells #[] te (0, 0)))
    (x : Value) (l : List UInt8) (hs : Src P 1 tx x l.length (bs l) w) (hl : l.length ≤ 100000000000) :
    ∃ v' w', (Builtin.append_ #[t, tx] ty #[.slice b 0 0, x]).run P w = .ok v' w' ∧ OWr w' v' l ∧ No w w' ∧ (∀ k, v'.ownBlock = some k → (∃ a, b = some a ∧ a.block = k) ∨ w.heap.size ≤ k) ∧ (v' = .slice none 0 0 ↔ b = none ∧ l.length = 0) := by
  obtain ⟨i, hi, hz, hsz, hby⟩ := info_parts hi
  by_cases hm : l.length = 0
  · have hl0 : l = [] := List.eq_nil_of_length_eq_zero hm
    subst hl0
    refine ⟨.slice b 0 0, w, ?_, ?_, Fr.refl _ _, fun k hk => ?_, by simp⟩
    · have hst : (Builtin.firstCells i.size 0 x).run P w = .ok #[] w := by rw [hsz]; simpa [bs] using hs.cells
      rcases hs.kind with ⟨e', hk⟩ | hk <;> cases b <;> simp [Builtin.append_, run_underlying ht, run_underlying hk, sizeOf, typeInfo, hi, hs.len, hst, storeCells]
    · rcases hb with rfl | ⟨g, te, rfl, hg⟩
      · exact OWr.nil _
      · exact .inr ⟨g, 0, #[], te, rfl, hg, rfl, Nat.le_refl _, by unfold maxLen; omega, Nat.le_refl _⟩
    · cases b with
      | none => simp [Value.ownBlock] at hk
      | some a => simp [Value.ownBlock] at hk; exact .inl ⟨a, rfl, hk⟩
  · have hold : (Builtin.firstCells i.size 0 (.slice b 0 0)).run P w.drew = .ok ([] : List Value).toArray w.drew := by
      cases b with
      | none => exact run_firstCells_none w.drew _ _ _ _
      | some a => exact run_firstCells_some w.drew i.size 0 a 0 0 [] (by simp) (fun j u hu => by simp at hu)
    have hr := run_append_grow_src w t tx ty e i _ ht hi hz b 0 0 [] hold x l.length (bs l) (hsz ▸ hs) (by omega) (by omega) (growslice_fits (by omega) (by rw [hby]; omega))
    have hge := grownCap_ge w (0 + l.length) 0 e
    have hcm := grownCap_le_maxLen w (0 + l.length) 0 e (by unfold maxLen; omega)
    refine ⟨_, _, hr, .inr ⟨w.heap.size, _, _, _, by rw [Nat.zero_add], heap_alloc_new w.drew _, ?_, by omega, hcm, ?_⟩, ⟨rfl, rfl, rfl, by simp, fun k hk _ => Below.heap_alloc w.drew _ k hk⟩, fun k hk => ?_, by simp [hm]⟩
    · simp only [Array.toList_append, List.nil_append]
      rw [← bs_length l]
      exact List.take_left
    · simp [Value.cells, size_zeroCells, bs_length]
      have hbl := bs_length l
      simp only [Nat.zero_add] at hge
      omega
    · simp [Value.ownBlock] at hk; exact .inr (by omega)

theorem wpList_append_fresh {P : Program} {ops : Array Oper} {rest : List Oper} {o : Oper} {a : Act} {w : World} {Q : Exit → Act → World → Prop} (hgd : o.guard = none) (sa x : Operand) (t tx : TypeId)
    (ho : o.op = .call { callee := .builtin .append, args := #[sa, x], argTypes := #[t, tx] })
    (e : TypeId) (ht : P.underlying t = some (.slice e)) (hi : (P.info? e).map (fun i => (i.zero, i.size, i.bytes)) = some (some (.int .u8 0), 1, 1))
    (b : Option Addr) (hb : b = none ∨ ∃ g te, b = some ⟨g, 0, none⟩ ∧ w.heap[g]? = some (.cells #[] te (0, 0))) (hv : a.eval sa = .slice b 0 0)
    (xv : Value) (hx : a.eval x = xv) (l : List UInt8) (hs : Src P 1 tx xv l.length (bs l) w) (hl : l.length ≤ 100000000000)
    (hk : ∀ v' w', OWr w' v' l → No w w' → (∀ k, v'.ownBlock = some k → (∃ a, b = some a ∧ a.block = k) ∨ w.heap.size ≤ k) → (v' = .slice none 0 0 ↔ b = none ∧ l.length = 0) → wpList P ops Q rest (a.put o.dst v') w') : wpList P ops Q (o :: rest) a w := by
  refine wpList_plain hgd fun K hK => ?_
  obtain ⟨v', w', hr, h1, h2, h3, h4⟩ := run_append_fresh (P := P) w t tx o.type e ht hi b hb xv l hs hl
  unfold Oper.wp execOp
  simp only [ho, resolve, invoke, builtin, Sem.run_bind, Sem.run_pure, Result.andThen_ok, List.map_toArray, List.map_cons, List.map_nil, hv, hx, hr]
  exact hK _ _ (hk v' w' h1 h2 h3 h4)
end Go.Proofs.Ytgbfbijjbkfglaa
