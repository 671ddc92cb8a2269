/-
  A disk's state under stores; Sync: what it computes.
-/
import Derived.Test.YtgbfbijjbkfglaaDiskC
namespace Go.Proofs.Ytgbfbijjbkfglaa
open Go.RowKit Go.Maps

section
variable {P : Program} {ops : Array Oper} {rest : List Oper} {o : Oper} {a : Act} {w : World} {Q : Exit → Act → World → Prop}
/-- A value of one cell into one cell; the world behind it under a name. -/
theorem wpList_store_at (hgd : o.guard = none) (ty : TypeId) (x y : Operand) (ho : o.op = .store ty x y)
    (g off : Nat) (v u : Value) (hx : a.eval x = .pointer (some ⟨g, off, none⟩)) (hy : a.eval y = v) (h1 : v.oneCell' = true) (hc : v.cells = #[v])
    (hcell : w.cell? ⟨g, off, none⟩ = some u) (hfz : w.frozen? ⟨g, off, none⟩ = false) (hi : (P.info? ty).map (·.size) = some 1)
    (h : ∀ w', w' = w.setCell ⟨g, off, none⟩ v → wpList P ops Q rest (a.put o.dst undef) w') : wpList P ops Q (o :: rest) a w :=
  wpList_store_val hgd ty x y ho g off v u hx hy h1 hc hcell hfz hi (h _ rfl)
end
theorem heap_sc {w : World} {g : Nat} {cur : Array Value} {e : TypeId} {fz : Nat × Nat} (h : w.heap[g]? = some (.cells cur e fz)) (j : Nat) (u : Value) : (w.setCell ⟨g, j, none⟩ u).heap[g]? = some (.cells (cur.setIfInBounds j u) e fz) := by
  rw [setCell_row _ _ _ _ _ _ _ h]; exact setRow_heap w g cur _ e fz h
theorem heap_sc_ne (w : World) {g k : Nat} (hn : k ≠ g) (j : Nat) (u : Value) : (w.setCell ⟨g, j, none⟩ u).heap[k]? = w.heap[k]? := Below.heap_setCell _ _ _ _ hn
theorem size_sc (w : World) (p : Addr) (u : Value) : (w.setCell p u).heap.size = w.heap.size := by simp [World.setCell]

section
variable {w w' : World} {ρ ρ' : Nat → Role} {db mb n n' : Nat} {D D' : DataW Nat} {M : List UInt8 → Option Fl} {c q : Nat} {d : Value}
theorem DKs.tick (h : DKs w ρ db mb n D M c q) : DKs (w.setCell ⟨db, 1, none⟩ (.int .i64 ((c : Int) + 1))) ρ db mb n D M (c + 1) q :=
  ⟨h.hdr, h.mp, by rw [heap_sc h.cell]; simp, ownsMap_keep h.own (heap_sc_ne _ (fun e => by have a := h.hdr; have b := h.mp; rw [e, a] at b; cases b) _ _), (by have := h.fit; omega),
   fun nm => (h.files nm).keep fun k e => heap_sc_ne _ (fun e' => by have a := h.hdr; rw [e', a] at e; rcases e with e | e <;> cases e) _ _, fun k e => by rw [size_sc]; exact h.lt k e⟩

theorem DKs.upd (h : DKs w ρ db mb n D M c q) (nm : List UInt8) (f : Fl) (b : Nat) (v : Value) (hρ : ∀ k, ρ k ≠ .no → ρ' k = ρ k) (hlt : ∀ k, ρ' k ≠ .no → k < w'.heap.size)
    (hk : ∀ k, ρ k ≠ .no → ρ k ≠ .mp → ρ k ≠ .fil nm → ρ k ≠ .byt nm → w'.heap[k]? = w.heap[k]?)
    (hown : w'.ownsMap Try.prog 9 ptrElem mb n' D') (hfit : n' ≤ c + q) (hD : ∀ z, D'.atKey (.string nm) z = .lit (.int .i64 b))
    (hDo : ∀ x, x ≠ nm → Maps.has D' (.string x) = Maps.has D (.string x) ∧ ∀ z, D'.atKey (.string x) z = D.atKey (.string x) z)
    (hb : ρ' b = .fil nm) (hcell : w'.heap[b]? = some (.cells #[v, .int .i64 f.lasts, .bool f.there] 61 (0, 0))) (hv : OB 0 w' v f.b) (hvr : ∀ k, v.ownBlock = some k → ρ' k = .byt nm)
    (hl : f.lasts ≤ f.b.length) (hl2 : f.b.length ≤ 1048576) : DKs w' ρ' db mb n' D' (setM M nm (some f)) c q := by
  refine ⟨by rw [hρ db (by rw [h.hdr]; simp)]; exact h.hdr, by rw [hρ mb (by rw [h.mp]; simp)]; exact h.mp, (hk db (by rw [h.hdr]; simp) (by rw [h.hdr]; simp) (by rw [h.hdr]; simp) (by rw [h.hdr]; simp)).trans h.cell, hown, hfit, fun x => ?_, hlt⟩
  by_cases hx : x = nm
  · subst hx
    simp only [setM, if_true]
    exact ⟨b, v, hD, hb, hcell, hv, hvr, hl, hl2⟩
  · simp only [setM, if_neg hx]
    have hf := h.files x
    cases hM : M x with
    | none => rw [hM] at hf; exact (hDo x hx).1.trans hf
    | some g =>
      rw [hM] at hf
      obtain ⟨b', v', h1, h2, h3, h4, h5, h6⟩ := hf
      refine ⟨b', v', fun z => ((hDo x hx).2 z).trans (h1 z), by rw [hρ b' (by rw [h2]; simp)]; exact h2, (hk b' (by rw [h2]; simp) (by rw [h2]; simp) (by rw [h2]; simp [hx]) (by rw [h2]; simp)).trans h3, h4.keep fun k e => ?_, fun k e => by rw [hρ k (by rw [h5 k e]; simp)]; exact h5 k e, h6⟩
      have hk5 := h5 k e
      exact hk k (by rw [hk5]; simp) (by rw [hk5]; simp) (by rw [hk5]; simp) (by rw [hk5]; simp [hx])
end

def syncOf : Option Fl → Option Fl
  | none => none
  | some f => some { f with lasts := f.b.length, there := true }
theorem setM_self (M : List UInt8 → Option Fl) (nm : List UInt8) : setM M nm (M nm) = M := by
  funext x; unfold setM; split
  · subst_vars; rfl
  · rfl

set_option maxRecDepth 100000 in
set_option maxHeartbeats 1000000 in
theorem DSync_any (d : Value) (ρ : Nat → Role) (M : List UInt8 → Option Fl) (c q : Nat) (name : ByteArray) (w : World) (h : DK w ρ d M c q) (hn : name.size ≤ maxLen) (hc : c + q ≤ 1000000) :
    Calls Try.prog 13 #[d, .string name] w fun e w' => e = .returned (.int .i64 (if (M name.data.toList).isNone then 6 else 0)) ∧ Op' w ρ w' ρ ∧ DK w' ρ d (setM M name.data.toList (syncOf (M name.data.toList))) (c + 1) q := by
  obtain ⟨db, mb, n, D, rfl, h⟩ := h
  have h0 : w.cell? ⟨db, 0, none⟩ = some (.map (some mb)) := by rw [cell_of_row _ _ _ _ _ _ h.cell]; rfl
  have h1 : w.cell? ⟨db, 1, none⟩ = some (.int .i64 c) := by rw [cell_of_row _ _ _ _ _ _ h.cell]; rfl
  have z1 : w.frozen? ⟨db, 1, none⟩ = false := frozen_of_row _ _ _ _ _ h.cell
  have hne : mb ≠ db := fun e => by have a := h.hdr; have b := h.mp; rw [e, a] at b; cases b
  have HT := _root_.Go.Lib.hid h.tick
  have HW : Hid (Op' w ρ (w.setCell ⟨db, 1, none⟩ (.int .i64 ((c : Int) + 1))) ρ) := ⟨(Fr.refl _ _).setCell _ _ (fun _ => by show ρ db ≠ _; rw [h.hdr]; simp), fun k e => .inl e⟩
  have hc' : (c : Int) ≤ 1000000 := by omega
  rcases look_ptr h name hn with ⟨hM, hlook⟩ | ⟨f, b, v, hM, hlook, hDb, hρb, hb, hv, hvr, hl, hb2⟩
  · rw [hM]
    have hrun := hlook _ (heap_sc_ne w hne 1 (.int .i64 ((c : Int) + 1)))
    have HM := _root_.Go.Lib.hid hM
    clear h hM hn hlook hc
    go_enter Try.func13, Try.ntmps13
    go_wp2
    go_ret
    refine ⟨rfl, HW.out, db, mb, n, D, rfl, ?_⟩
    have := setM_self M name.data.toList
    rw [HM.out] at this
    rw [show syncOf none = none from rfl, this]
    exact HT.out
  · rw [hM]
    have hbd : b ≠ db := fun e => by have a := h.hdr; rw [e, a] at hρb; cases hρb
    have hrun := hlook _ (heap_sc_ne w hne 1 (.int .i64 ((c : Int) + 1)))
    have hb' : (w.setCell ⟨db, 1, none⟩ (.int .i64 ((c : Int) + 1))).heap[b]? = some (.cells #[v, .int .i64 f.lasts, .bool f.there] 61 (0, 0)) := (heap_sc_ne w hbd 1 _).trans hb
    have HB := _root_.Go.Lib.hid hb'
    have HM := _root_.Go.Lib.hid hM
    have HR := _root_.Go.Lib.hid hρb
    have HD := _root_.Go.Lib.hid hDb
    have HL := _root_.Go.Lib.hid hb2
    have hvd : ∀ k, v.ownBlock = some k → k ≠ db := fun k e e' => by have := hvr k e; rw [e', h.hdr] at this; cases this
    have hvb : ∀ k, v.ownBlock = some k → k ≠ b := fun k e e' => by have := hvr k e; rw [e', hρb] at this; cases this
    have HV : Hid (OB 0 (w.setCell ⟨db, 1, none⟩ (.int .i64 ((c : Int) + 1))) v f.b) := hv.keep fun k e => heap_sc_ne w (hvd k e) 1 _
    have HVB := _root_.Go.Lib.hid hvb
    have HVR := _root_.Go.Lib.hid hvr
    generalize hw1 : w.setCell ⟨db, 1, none⟩ (.int .i64 ((c : Int) + 1)) = w1 at *
    have c0 : w1.cell? ⟨b, 0, none⟩ = some v := by rw [cell_of_row _ _ _ _ _ _ HB.out]; rfl
    have c1 : w1.cell? ⟨b, 1, none⟩ = some (.int .i64 f.lasts) := by rw [cell_of_row _ _ _ _ _ _ HB.out]; rfl
    have c2 : w1.cell? ⟨b, 2, none⟩ = some (.bool f.there) := by rw [cell_of_row _ _ _ _ _ _ HB.out]; rfl
    have y1 : w1.frozen? ⟨b, 1, none⟩ = false := frozen_of_row _ _ _ _ _ HB.out
    have y2 : w1.frozen? ⟨b, 2, none⟩ = false := frozen_of_row _ _ _ _ _ HB.out
    have g0 : w1.cell? ⟨db, 0, none⟩ = some (.map (some mb)) := by rw [cell_of_row _ _ _ _ _ _ HT.out.cell]; rfl
    have HW1 := _root_.Go.Lib.hid hw1
    clear hDb h hM hn hlook hc hb hv hvr hl hb2 hb' hvd hvb hρb hw1
    go_enter Try.func13, Try.ntmps13
    go_wp2_with (first
      | (refine wpList_store_at rfl 3 (.tmp 14) (.tmp 12) rfl db 1 (.int .i64 ((c : Int) + 1)) _ rfl rfl rfl rfl h1 z1 (by kernel_rfl) ?_; intro w2 hw2; rw [HW1.out] at hw2; subst hw2)
      | (refine wpList_len rfl (.tmp 28) 22 5 rfl Try.underlying22 v 1 _ _ (Ow.rd HV.out) rfl ?_))

    go_ret
    refine ⟨rfl, HW.out.trans ⟨((Fr.refl _ _).setCell _ _ (fun _ => by show ρ b ≠ _; rw [HR.out]; simp)).setCell _ _ (fun _ => by show ρ b ≠ _; rw [HR.out]; simp), fun k e => .inl e⟩, db, mb, n, D, rfl, ?_⟩
    have hT := HT.out
    refine hT.upd name.data.toList { f with lasts := f.b.length, there := true } b v (fun _ _ => rfl) (fun k e => by rw [size_sc, size_sc]; exact hT.lt k e) (fun k _ _ e _ => ?_) (ownsMap_keep hT.own ?_) hT.fit ?_ (fun _ _ => ⟨rfl, fun _ => rfl⟩) HR.out ?_ (HV.out.keep fun k e => ?_) HVR.out (Nat.le_refl _) HL.out
    · have : k ≠ b := fun e' => e (by rw [e', HR.out])
      rw [heap_sc_ne _ this, heap_sc_ne _ this]
    · have : mb ≠ b := fun e' => by have a := hT.mp; rw [e', HR.out] at a; cases a
      rw [heap_sc_ne _ this, heap_sc_ne _ this]
    · exact HD.out
    · rw [heap_sc (heap_sc HB.out _ _)]; simp
    · rw [heap_sc_ne _ (HVB.out k e), heap_sc_ne _ (HVB.out k e)]
end Go.Proofs.Ytgbfbijjbkfglaa
