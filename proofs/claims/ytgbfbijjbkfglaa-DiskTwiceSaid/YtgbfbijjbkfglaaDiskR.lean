/-
  Operations that came in; crashes of crashes; names, plainly.
-/
import Derived.Test.YtgbfbijjbkfglaaDiskQ
import Derived.BigQuiet
namespace Go.Proofs.Ytgbfbijjbkfglaa
open Go.RowKit Go.Maps

/-- All lasts. -/
def Lasting (M : List UInt8 → Option Fl) : Prop := ∀ nm f, M nm = some f → f.lasts = f.b.length ∧ f.there = true
theorem crash_lasts (n : Int) (M : List UInt8 → Option Fl) (h : ∀ nm f, M nm = some f → f.lasts ≤ f.b.length) : Lasting (crashM n M) := by
  intro nm f hf
  simp only [crashM] at hf
  cases hM : M nm with
  | none => rw [hM] at hf; simp at hf
  | some g =>
    rw [hM] at hf
    simp only [Option.bind_some, crashF] at hf
    split at hf
    · cases hf
      exact ⟨by have := keepOf_le n g (h nm g hM); simp [List.length_take]; omega, rfl⟩
    · cases hf
theorem crash_same (n : Int) (M : List UInt8 → Option Fl) (h : Lasting M) : crashM n M = M := by
  funext nm
  simp only [crashM]
  cases hM : M nm with
  | none => rfl
  | some f =>
    obtain ⟨h1, h2⟩ := h nm f hM
    obtain ⟨b, la, th⟩ := f
    simp only at h1 h2
    subst h1 h2
    exact crash_lasting n b
theorem NamesOf.eq {M : List UInt8 → Option Fl} {L K : List (List UInt8)} (h : NamesOf M L) (k : NamesOf M K) : L = K := by
  have hp : L.Perm K := (List.perm_ext_iff_of_nodup h.nodup k.nodup).2 fun x => (h.mem x).trans (k.mem x).symm
  exact hp.eq_of_pairwise (fun a b _ _ h1 h2 => List.le_antisymm h1 h2) h.sorted k.sorted
theorem DK.lasts {w : World} {ρ : Nat → Role} {d : Value} {M : List UInt8 → Option Fl} {c q : Nat} (h : DK w ρ d M c q) : ∀ nm f, M nm = some f → f.lasts ≤ f.b.length := by
  intro nm f hM
  obtain ⟨db, mb, n, D, rfl, h⟩ := h
  have := h.files nm
  rw [hM] at this
  obtain ⟨b, v, _, _, _, _, _, h6, _⟩ := this
  exact h6

/-- One operation, in four cells. -/
structure OpAt (w : World) (x : Addr) (kind nn : Int) (name : ByteArray) (vb : Value) (l : List UInt8) : Prop where
  c0 : w.cell? x = some (.int .i64 kind)
  c1 : w.cell? ⟨x.block, x.off + 1, none⟩ = some (.int .i64 nn)
  c2 : w.cell? ⟨x.block, x.off + 2, none⟩ = some (.string name)
  c3 : w.cell? ⟨x.block, x.off + 3, none⟩ = some vb
  kb : -9223372036854775808 ≤ kind ∧ kind ≤ 9223372036854775807
  nb : -9223372036854775808 ≤ nn ∧ nn ≤ 9223372036854775807
  nm : name.size ≤ maxLen
  rb : RA w vb l
/-- Operations that came in. -/
def RO (w : World) (a : Option Addr) (len : Nat) : Prop := (a = none ∧ len = 0) ∨
  ∃ x, a = some x ∧ ∀ i, i < len → ∃ kind nn name vb l, OpAt w (x.add (i * 4)) kind nn name vb l
theorem OpAt.no {w w' : World} {x : Addr} {kind nn : Int} {name : ByteArray} {vb : Value} {l : List UInt8} (h : OpAt w x kind nn name vb l) (hf : No w w') : OpAt w' x kind nn name vb l := by
  have hc : ∀ {y : Addr} {v : Value}, w.cell? y = some v → w'.cell? y = some v := fun {y v} e => (hf.cell (World.block_lt_of_cell? _ _ e) id).trans e
  exact ⟨hc h.c0, hc h.c1, hc h.c2, hc h.c3, h.kb, h.nb, h.nm, h.rb.no hf⟩
end Go.Proofs.Ytgbfbijjbkfglaa
