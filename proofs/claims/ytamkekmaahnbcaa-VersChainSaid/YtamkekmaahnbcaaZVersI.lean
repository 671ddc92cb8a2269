/-
  VersChain: what is always so of the chain. Plain.
-/
import Derived.Test.YtamkekmaahnbcaaZVersH
import Derived.Test.YtamkekmaahnbcaaZQO
namespace Go.Proofs.Ytamkekmaahnbcaa
open Go.RowKit

def B32.put (b : B32) (j : Nat) (x : UInt8) : B32 := ⟨b.l.set j x, by rw [List.length_set, b.len]⟩
/-- Numbers of a structure that is the i-th. -/
structure VB (i : Int) (v : V) : Prop where
  a : 0 ≤ v.vec.a ∧ v.vec.a ≤ i
  b : 0 ≤ v.vec.b ∧ v.vec.b ≤ i
  c : 0 ≤ v.vec.c ∧ v.vec.c ≤ i
  d : 0 ≤ v.vec.d ∧ v.vec.d ≤ i
  n : 0 ≤ v.n ∧ v.n ≤ i
  count : v.count = i
  epoch : 0 ≤ v.epoch ∧ v.epoch ≤ i
  client : 0 ≤ v.client ∧ v.client ≤ 4
theorem VB.zero : VB 0 V.zero := by constructor <;> (unfold V.zero; first | (dsimp only; omega) | rfl)
theorem VB.sm {i : Int} {v : V} (h : VB i v) (h0 : 0 ≤ i) (hi : i ≤ 20) : v.Sm := by
  have := h.a; have := h.b; have := h.c; have := h.d; have := h.n; have := h.count; have := h.epoch; have := h.client
  have hin : v.In := by constructor <;> (unfold In64; constructor <;> omega)
  exact ⟨hin, by omega, by omega, by omega, by omega, by omega⟩
/-- The next one, with an epoch that may be one more, and a root. -/
noncomputable def vstep (last : V) (who e : Int) (r : UInt8) : V := { vnext last who with epoch := if e = 0 then last.epoch else last.epoch + e, root := last.root.put 0 r }
theorem I4.get_bd {v : I4} {i : Int} (a : 0 ≤ v.a ∧ v.a ≤ i) (b : 0 ≤ v.b ∧ v.b ≤ i) (c : 0 ≤ v.c ∧ v.c ≤ i) (d : 0 ≤ v.d ∧ v.d ≤ i) (k : Int) : 0 ≤ v.get k ∧ v.get k ≤ i := by
  unfold I4.get
  split
  · exact a
  · split
    · exact b
    · split
      · exact c
      · exact d
theorem VB.step {i : Int} {v : V} (h : VB i v) (who e : Int) (r : UInt8) (hw : 1 ≤ who ∧ who ≤ 4) (he : e = 0 ∨ e = 1) : VB (i + 1) (vstep v who e r) := by
  have ha := h.a; have hb := h.b; have hc := h.c; have hd := h.d; have hn := h.n; have hk := h.count; have hp := h.epoch
  have hg := I4.get_bd ha hb hc hd who
  constructor
  all_goals unfold vstep vnext; dsimp only
  all_goals first | omega | (split <;> omega) | (unfold I4.bump; repeat (first | omega | (dsimp only; omega) | split))
theorem vstep_follows {i : Int} {v : V} (_h : VB i v) (who e : Int) (r : UInt8) (hw : 1 ≤ who ∧ who ≤ 4) (he : e = 0 ∨ e = 1) : vfollows v (vstep v who e r) := by
  unfold vfollows vfollows'
  have hc : (vstep v who e r).client = who := rfl
  have h1 : (vnext v who).client = who := rfl
  have h2 : (vnext v who).epoch = v.epoch := rfl
  have h3 : (vstep v who e r).epoch = v.epoch + e := by
    show (if e = 0 then v.epoch else v.epoch + e) = _
    split <;> omega
  rw [hc]
  unfold vnextT
  rw [if_pos hw]
  exact ⟨by rw [h1]; omega, by rw [h2, h3]; omega, by rw [h2, h3]; omega, rfl⟩
theorem vstep_not {i k : Int} {v u : V} (h : VB i v) (hu : VB k u) (hk : k ≠ i) (who e : Int) (r : UInt8) (hw : 1 ≤ who ∧ who ≤ 4) : ¬ vfollows u (vstep v who e r) := by
  unfold vfollows vfollows'
  have hc : (vstep v who e r).client = who := rfl
  rw [hc]
  unfold vnextT
  rw [if_pos hw]
  intro hh
  have := congrArg V.count hh.2.2.2
  have e1 : (vstep v who e r).count = v.count + 1 := rfl
  rw [e1] at this
  have e2 : ({ vnext u who with root := (vstep v who e r).root, epoch := (vstep v who e r).epoch, tag := (vstep v who e r).tag } : V).count = u.count + 1 := rfl
  rw [e2, h.count, hu.count] at this
  omega
theorem vstep_may {i : Int} {v : V} (h : VB i v) (h0 : 0 ≤ i) (hi : i ≤ 20) (who e : Int) (r : UInt8) (hw : 1 ≤ who ∧ who ≤ 4) (he : e = 0 ∨ e = 1) : vmay (vstep v who e r) := by
  have hs := h.step who e r hw he
  have ha := hs.a; have hb := hs.b; have hc := hs.c; have hd := hs.d; have hn := hs.n; have hk := hs.count; have hp := hs.epoch
  have hg := I4.get_bd h.a h.b h.c h.d who
  have hn1 : (vstep v who e r).n = v.vec.get who + 1 := rfl
  exact ⟨by omega, by omega, by omega, by omega, hw, by omega, by omega, by omega⟩
/-- A chain: the k-th has k + 1. -/
def Chain (all : List V) : Prop := ∀ k v, all[k]? = some v → VB (k + 1 : Nat) v
theorem Chain.snoc {all : List V} (h : Chain all) {v : V} (hv : VB (all.length + 1 : Nat) v) : Chain (all ++ [v]) := fun k u hu => by
  by_cases hk : k < all.length
  · rw [List.getElem?_append_left hk] at hu
    exact h k u hu
  · rw [List.getElem?_append_right (by omega)] at hu
    have : k - all.length = 0 := by
      rcases Nat.eq_zero_or_pos (k - all.length) with e | e
      · exact e
      · rw [List.getElem?_eq_none (by simp; omega)] at hu; cases hu
    have e : k = all.length := by omega
    subst e
    simp at hu
    subst hu
    exact hv
end Go.Proofs.Ytamkekmaahnbcaa
