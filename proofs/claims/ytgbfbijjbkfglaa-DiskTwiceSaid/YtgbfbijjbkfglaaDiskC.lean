/-
  Loose, Read, Sync: what they compute.
-/
import Derived.Test.YtgbfbijjbkfglaaDiskB
namespace Go.Proofs.Ytgbfbijjbkfglaa
open Go.RowKit Go.Maps

def looseOf : Option Fl → Nat
  | none => 0
  | some f => f.b.length - f.lasts
def setM (M : List UInt8 → Option Fl) (nm : List UInt8) (o : Option Fl) : List UInt8 → Option Fl := fun x => if x = nm then o else M x

theorem nil_len {l : List UInt8} (h : bs l = []) : l = [] := List.eq_nil_of_length_eq_zero (by have := congrArg List.length h; simpa [bs_length] using this)

set_option maxRecDepth 100000 in
set_option maxHeartbeats 1000000 in
theorem DLoose_any (d : Value) (ρ : Nat → Role) (M : List UInt8 → Option Fl) (c q : Nat) (name : ByteArray) (w : World) (h : DK w ρ d M c q) (hn : name.size ≤ maxLen) :
    Calls Try.prog 25 #[d, .string name] w fun e w' => e = .returned (.int .i64 (looseOf (M name.data.toList))) ∧ ∃ k, w' = w.drewN k := by
  obtain ⟨db, mb, n, D, rfl, h⟩ := h
  have h0 : w.cell? ⟨db, 0, none⟩ = some (.map (some mb)) := by rw [cell_of_row _ _ _ _ _ _ h.cell]; rfl
  rcases look_ptr h name hn with ⟨hM, hlook⟩ | ⟨f, b, v, hM, hlook, _, _, hb, hv, _, hl, hb2⟩
  · rw [hM]
    have hrun := hlook w rfl
    have hrunN := fun k => hlook (w.drewN k) rfl
    clear hlook
    clear h hM hn
    go_enter Try.func25, Try.ntmps25
    go_wp2
    go_ret
    exact ⟨rfl, 0, rfl⟩
  · rw [hM]
    have hrun := hlook w rfl
    have hrunN := fun k => hlook (w.drewN k) rfl
    clear hlook
    have HR : Hid (((f.b.length : Int) - f.lasts) = ((looseOf (some f) : Nat) : Int)) := by show _ = _; simp only [looseOf]; omega
    have c0 : w.cell? ⟨b, 0, none⟩ = some v := by rw [cell_of_row _ _ _ _ _ _ hb]; rfl
    have c1 : w.cell? ⟨b, 1, none⟩ = some (.int .i64 f.lasts) := by rw [cell_of_row _ _ _ _ _ _ hb]; rfl
    have q1 : (f.b.length : Int) ≤ 1048576 := by omega
    have q2 : (f.lasts : Int) ≤ f.b.length := by omega
    rcases Rd.shape (Ow.rd hv) with ⟨rfl, hl0, _⟩ | ⟨g, off, cap, rfl, _⟩
    · have q3 : f.lasts = 0 := by omega
      rw [hl0, q3] at HR
      rw [q3] at c1
      clear h hM hn hb hv hl hb2 q1 q2 q3 hl0
      go_enter Try.func25, Try.ntmps25
      go_wp2_with fail
      go_quiet (fail)
      go_wp2
      go_ret
      exact ⟨ret_int (by rw [← HR.out]; rfl), _, rfl⟩
    · clear h hM hn hb hv hl hb2
      generalize f.b.length = fl at *
      generalize f.lasts = fs at *
      go_enter Try.func25, Try.ntmps25
      go_wp2_with fail
      go_quiet (fail)
      go_wp2
      go_ret
      exact ⟨ret_int (by rw [← HR.out]), _, rfl⟩

set_option maxRecDepth 100000 in
set_option maxHeartbeats 1000000 in
theorem DRead_any (d : Value) (ρ : Nat → Role) (M : List UInt8 → Option Fl) (c q : Nat) (name : ByteArray) (w : World) (h : DK w ρ d M c q) (hn : name.size ≤ maxLen) :
    Calls Try.prog 15 #[d, .string name] w fun e w' => ∃ v, e = .returned (.tuple #[v, .int .i64 (if (M name.data.toList).isNone then 6 else 0)]) ∧ No w w' ∧
      OB 0 w' v (((M name.data.toList).map (·.b)).getD []) ∧ Newer w v ∧ OWr w' v (((M name.data.toList).map (·.b)).getD []) := by
  obtain ⟨db, mb, n, D, rfl, h⟩ := h
  have h0 : w.cell? ⟨db, 0, none⟩ = some (.map (some mb)) := by rw [cell_of_row _ _ _ _ _ _ h.cell]; rfl
  rcases look_ptr h name hn with ⟨hM, hlook⟩ | ⟨f, b, v, hM, hlook, _, _, hb, hv, _, hl, hb2⟩
  · rw [hM]
    have hrun := hlook w rfl
    have hrunN := fun k => hlook (w.drewN k) rfl
    clear hlook
    clear h hM hn
    go_enter Try.func15, Try.ntmps15
    go_wp2
    go_ret2
    exact ⟨_, rfl, Fr.refl _ _, OB.nil _ _, Newer.nil _, OWr.nil _⟩
  · rw [hM]
    have hrun := hlook w rfl
    have hrunN := fun k => hlook (w.drewN k) rfl
    clear hlook
    have c0 : w.cell? ⟨b, 0, none⟩ = some v := by rw [cell_of_row _ _ _ _ _ _ hb]; rfl
    have HV := _root_.Go.Lib.hid hv
    clear h hM hn hb hv hl
    rcases Rd.shape (Ow.rd HV.out) with ⟨rfl, hl0, _⟩ | ⟨g, off, cap, rfl, _⟩
    all_goals
      try clear hl0
      go_enter Try.func15, Try.ntmps15
      go_wp2_with (go_at_call 29; refine (BClone_any _ f.b _ (RB.ra (Ow.rd HV.out)) (by omega)).mono ?_; rintro e w' ⟨v', rfl, X1, X2, X3, X4⟩; have Y1 := _root_.Go.Lib.hid X1; have Y2 := _root_.Go.Lib.hid X2; have Y3 := _root_.Go.Lib.hid X3; have Y4 := _root_.Go.Lib.hid X4.2; clear X1 X2 X3 X4)
      go_ret2
      exact ⟨_, rfl, Y2.out, Y1.out, Y3.out, Y4.out⟩
end Go.Proofs.Ytgbfbijjbkfglaa
