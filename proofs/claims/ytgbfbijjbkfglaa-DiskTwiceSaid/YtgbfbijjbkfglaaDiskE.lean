/-
  A file laid anew in a disk; Append, Swap: what they compute.
-/
import Derived.Test.YtgbfbijjbkfglaaDiskD
namespace Go.Proofs.Ytgbfbijjbkfglaa
open Go.RowKit Go.Maps

section
variable {w w1 w4 w5 : World} {ρ : Nat → Role} {db mb n : Nat} {D : DataW Nat} {M : List UInt8 → Option Fl} {c q : Nat} {d : Value}
theorem DKs.ne (h : DKs w ρ db mb n D M c q) : mb ≠ db := fun e => by have a := h.hdr; have b := h.mp; rw [e, a] at b; cases b
theorem DKs.ticked (h : DKs w ρ db mb n D M c q) : ∃ w1, w.setCell ⟨db, 1, none⟩ (.int .i64 ((c : Int) + 1)) = w1 ∧ DKs w1 ρ db mb n D M (c + 1) q ∧ Op' w ρ w1 ρ ∧ w.cell? ⟨db, 1, none⟩ = some (.int .i64 c) ∧ w.frozen? ⟨db, 1, none⟩ = false ∧
    w1.cell? ⟨db, 0, none⟩ = some (.map (some mb)) :=
  ⟨_, rfl, h.tick, ⟨(Fr.refl _ _).setCell _ _ (fun _ => by show ρ db ≠ _; rw [h.hdr]; simp), fun k e => .inl e⟩, by rw [cell_of_row _ _ _ _ _ _ h.cell]; rfl, frozen_of_row _ _ _ _ _ h.cell, by rw [cell_of_row _ _ _ _ _ _ h.tick.cell]; rfl⟩

theorem DKs.laid (T : DKs w1 ρ db mb n D M c q) (nm : List UInt8) (f : Fl) (b : Nat) (v : Value) (hf : Fr (fun k => ρ k = .fil nm ∨ ρ k = .byt nm) w1 w4)
    (hbn : ρ b = .fil nm ∨ w1.heap.size ≤ b) (hvn : ∀ k, v.ownBlock = some k → (ρ k = .byt nm ∨ w1.heap.size ≤ k) ∧ k ≠ b)
    (hcell : w4.heap[b]? = some (.cells #[v, .int .i64 f.lasts, .bool f.there] 61 (0, 0))) (hv : OB 0 w4 v f.b) (hl : f.lasts ≤ f.b.length) (hl2 : f.b.length ≤ 1048576)
    (hfit : n + 1 ≤ c + q) (hown : w5.ownsMap Try.prog 9 ptrElem mb (n + 1) (D.put (.string nm) (.lit (.int .i64 b)))) (hg : w4.grownBy w5 (some mb)) :
    ∃ ρ', Op' w1 ρ w5 ρ' ∧ DKs w5 ρ' db mb (n + 1) (D.put (.string nm) (.lit (.int .i64 b))) (setM M nm (some f)) c q := by
  have hno : ∀ k, w1.heap.size ≤ k → ρ k = .no := fun k e => by
    cases hr : ρ k with
    | no => rfl
    | _ => have := T.lt k (by rw [hr]; simp); omega
  have hbm : b ≠ mb := by
    rintro rfl
    rcases hbn with e | e
    · have := T.mp; rw [e] at this; cases this
    · have := hno _ e; rw [T.mp] at this; cases this
  have hvm : ∀ k, v.ownBlock = some k → k ≠ mb := by
    rintro k hk rfl
    rcases (hvn _ hk).1 with e | e
    · have := T.mp; rw [e] at this; cases this
    · have := hno _ e; rw [T.mp] at this; cases this
  have hold : ∀ k, ρ k ≠ .no → (if k = b then Role.fil nm else if v.ownBlock = some k then Role.byt nm else ρ k) = ρ k := by
    intro k hk
    split
    · subst_vars
      exact (hbn.resolve_right fun e => hk (hno _ e)).symm
    · split
      · rename_i hk2
        exact ((hvn k hk2).1.resolve_right fun e => hk (hno _ e)).symm
      · rfl
  have hs : w4.heap.size ≤ w5.heap.size := hg.size
  have hblock : ∀ k, k < w4.heap.size → k ≠ mb → w5.heap[k]? = w4.heap[k]? := fun k hk hn => hg.block k hk (by simpa using hn)
  have hb4 := lt_of_heap hcell
  have hv4 := (Ow.rd hv).lt
  refine ⟨fun k => if k = b then .fil nm else if v.ownBlock = some k then .byt nm else ρ k, ⟨⟨hg.os.trans hf.os, hg.tape.trans hf.tape, hg.output.trans hf.output, Nat.le_trans hf.size hs, fun k hk hn => ?_⟩, fun k hk => ?_⟩, ?_⟩
  · have hk0 : ρ k = .no := by simpa using hn
    rw [hblock k (Nat.lt_of_lt_of_le hk hf.size) (fun e => by have := T.mp; rw [← e, hk0] at this; cases this)]
    exact hf.block k hk (by rw [hk0]; simp)
  · by_cases hr : ρ k = .no
    · right
      split at hk
      · subst_vars
        rcases hbn with e | e
        · rw [e] at hr; cases hr
        · exact e
      · split at hk
        · rename_i hk2
          rcases (hvn k hk2).1 with e | e
          · rw [e] at hr; cases hr
          · exact e
        · exact absurd hr hk
    · exact .inl hr
  · refine T.upd nm f b v hold (fun k hk => ?_) (fun k h1 h2 h3 h4 => ?_) hown hfit ?_ (fun x hx => ?_) (by simp) ?_ (hv.keep fun k hk => hblock k (hv4 k hk) (hvm k hk)) (fun k hk => ?_) hl hl2
    · skip
      split at hk
      · subst_vars; omega
      · split at hk
        · rename_i hk2; have := hv4 k hk2; omega
        · have := T.lt k hk; have := hf.size; omega
    · have hlt := T.lt k h1
      rw [hblock k (Nat.lt_of_lt_of_le hlt hf.size) (fun e => h2 (by rw [e]; exact T.mp))]
      exact hf.block k hlt (by simp [h3, h4])
    · exact Maps.atKey_put_same T.own.isMap (by simp [WideAt.IsKeyLit]) _
    · have hne : Lit.string x ≠ Lit.string nm := by simpa using hx
      exact ⟨Maps.has_put_other hne _, fun z => Maps.atKey_put_other hne _ z⟩
    · rw [hblock b hb4 hbm]; exact hcell
    · simp only [hk, if_true]
      rw [if_neg (hvn k hk).2]
end
end Go.Proofs.Ytgbfbijjbkfglaa
