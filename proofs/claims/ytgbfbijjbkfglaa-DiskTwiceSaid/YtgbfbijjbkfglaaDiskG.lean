/-
  Swap: what it computes.
-/
import Derived.Test.YtgbfbijjbkfglaaDiskF
import Derived.Deep.RegionHeld3
namespace Go.Proofs.Ytgbfbijjbkfglaa
open Go.RowKit Go.Maps

/-- The world behind 'm[name] = p'. -/
noncomputable def updW (mb : Nat) (name : ByteArray) (b : Nat) (x : World) : World :=
  match (Instr.mapUpdate 55 (.map (some mb)) (.string name) (.pointer (some ⟨b, 0, none⟩))).run Try.prog x with
  | .ok _ w' => w'
  | _ => x
theorem updW_spec {x : World} {mb n : Nat} {D : DataW Nat} (name : ByteArray) (hn : name.size ≤ maxLen) (hx : x.ownsMap Try.prog 9 ptrElem mb n D) (hnn : n < maxLen) (b : Nat) :
    (Instr.mapUpdate 55 (.map (some mb)) (.string name) (.pointer (some ⟨b, 0, none⟩))).run Try.prog x = .ok () (updW mb name b x) ∧
      (updW mb name b x).ownsMap Try.prog 9 ptrElem mb (n + 1) (D.put (.string name.data.toList) (.lit (.int .i64 b))) ∧ x.grownBy (updW mb name b x) (some mb) := by
  obtain ⟨w', hr, h1, h2⟩ := hx.update (string_keyed Try.underlying9) Try.underlying55 hnn (WideMaps.keyOf_string_mk Try.underlying9 hn) (elemOf b)
  have he : updW mb name b x = w' := by unfold updW; rw [hr]
  rw [he]
  exact ⟨hr, h1, h2⟩

theorem OB.form {base : Nat} {w : World} {v : Value} {l : List UInt8} (h : OB base w v l) : ∃ a m c, v = .slice a m c := by
  rcases Rd.shape (Ow.rd h) with ⟨rfl, _⟩ | ⟨g, off, cap, rfl, _⟩ <;> exact ⟨_, _, _, rfl⟩

/-- From wz on nothing old has changed, but that the map may have been written once. -/
def Sd (wz : World) (mb : Nat) (name : ByteArray) (x : World) : Prop := No wz x ∨ ∃ y b, No wz y ∧ x = updW mb name b y
theorem Sd.run {wz : World} {ρ : Nat → Role} {db mb n : Nat} {D : DataW Nat} {M : List UInt8 → Option Fl} {c q : Nat} (T : DKs wz ρ db mb n D M c q) (name : ByteArray) (hn : name.size ≤ maxLen) (hm : n + 1 < maxLen) (b : Nat) (x : World) (hx : Sd wz mb name x) :
    (Instr.mapUpdate 55 (.map (some mb)) (.string name) (.pointer (some ⟨b, 0, none⟩))).run Try.prog x = .ok () (updW mb name b x) := by
  have h0 : ∀ y : World, No wz y → y.ownsMap Try.prog 9 ptrElem mb n D := fun y hy => ownsMap_keep T.own (hy.block mb (T.lt mb (by rw [T.mp]; simp)) id)
  rcases hx with hx | ⟨y, b', hy, rfl⟩
  · exact (updW_spec name hn (h0 x hx) (by omega) b).1
  · exact (updW_spec name hn (updW_spec name hn (h0 y hy) (by omega) b').2.1 hm b).1
theorem Sd.cell {wz : World} {ρ : Nat → Role} {db mb n : Nat} {D : DataW Nat} {M : List UInt8 → Option Fl} {c q : Nat} (T : DKs wz ρ db mb n D M c q) (name : ByteArray) (hn : name.size ≤ maxLen) (hm : n < maxLen) (x : World) (hx : Sd wz mb name x) :
    x.cell? ⟨db, 0, none⟩ = some (.map (some mb)) := by
  have hlt := T.lt db (by rw [T.hdr]; simp)
  have hcell : ∀ y : World, y.heap[db]? = wz.heap[db]? → y.cell? ⟨db, 0, none⟩ = some (.map (some mb)) := fun y hy => by rw [cell_of_row _ _ _ _ _ _ (hy.trans T.cell)]; rfl
  rcases hx with hx | ⟨y, b', hy, rfl⟩
  · exact hcell x (hx.block db hlt id)
  · have hg := (updW_spec name hn (ownsMap_keep T.own (hy.block mb (T.lt mb (by rw [T.mp]; simp)) id)) hm b').2.2
    exact hcell _ ((hg.block db (Nat.lt_of_lt_of_le hlt hy.size) (by simp; exact T.ne.symm)).trans (hy.block db hlt id))

set_option maxRecDepth 100000 in
set_option maxHeartbeats 2000000 in
theorem DSwap_any (d : Value) (ρ : Nat → Role) (M : List UInt8 → Option Fl) (c q : Nat) (name : ByteArray) (vb : Value) (l : List UInt8) (w : World) (h : DK w ρ d M c q) (hn : name.size ≤ maxLen) (hc : c + q ≤ 1000000)
    (hvb : RA w vb l) (hvo : ∀ k, vb.ownBlock = some k → l ≠ [] → ρ k = .no) (hlb : l.length ≤ 1000000000000) :
    Calls Try.prog 20 #[d, .string name, vb] w fun e w' => ∃ ρ', e = .returned (.int .i64 (swapOf M name.data.toList l).1) ∧ Op' w ρ w' ρ' ∧ DK w' ρ' d (swapOf M name.data.toList l).2 (c + 1) q := by
  obtain ⟨db, mb, n, D, rfl, h⟩ := h
  have hfit := h.fit
  obtain ⟨w1, hw1, T, W, h1, z1, g0⟩ := h.ticked
  have hc' : (c : Int) ≤ 1000000 := by omega
  have HT := _root_.Go.Lib.hid T
  have HW := _root_.Go.Lib.hid W
  have HN := _root_.Go.Lib.hid hn
  have HW1 := _root_.Go.Lib.hid hw1
  have HF := _root_.Go.Lib.hid hfit
  have HB : Hid (RA w1 vb l) := W.ra hvb hvo
  have HC := _root_.Go.Lib.hid hc
  have HL := _root_.Go.Lib.hid hlb
  have hll : (l.length : Int) ≤ 1000000000000 := by omega
  have hdb : db < w1.heap.size := T.lt db (by rw [T.hdr]; simp)
  clear h hvb hvo hw1 W hfit hc hlb
  cases hgood : good name.data.toList with
  | false =>
    have HG : Hid (swapOf M name.data.toList l = (1, M)) := by show _ = _; simp [swapOf, hgood]
    rw [HG.out]
    clear T hn hll
    go_enter Try.func20, Try.ntmps20
    go_wp2_with (first
      | (refine wpList_store_at rfl 3 (.tmp 15) (.tmp 13) rfl db 1 (.int .i64 ((c : Int) + 1)) _ rfl rfl rfl rfl h1 z1 (by kernel_rfl) ?_; intro w2 hw2; rw [HW1.out] at hw2; subst hw2)
      | (go_at_call 28; refine (may_any name _ HN.out).mono ?_; rintro e w' ⟨rfl, rfl⟩))
    go_ret
    exact ⟨ρ, rfl, HW.out, db, mb, n, D, rfl, HT.out⟩
  | true =>
    have HG : Hid (swapOf M name.data.toList l = if 1048576 < l.length then (5, M) else (0, setM M name.data.toList (some ⟨l, l.length, true⟩))) := by show _ = _; simp [swapOf, hgood]
    rw [HG.out]
    by_cases hbig : 1048576 < l.length
    · rw [if_pos hbig]
      have hbig' : (1048576 : Int) < l.length := by omega
      clear hbig T hn
      generalize hY : l.length = ll at *
      have HY := _root_.Go.Lib.hid hY
      clear hY
      go_enter Try.func20, Try.ntmps20
      go_wp2_with (first
        | (refine wpList_store_at rfl 3 (.tmp 15) (.tmp 13) rfl db 1 (.int .i64 ((c : Int) + 1)) _ rfl rfl rfl rfl h1 z1 (by kernel_rfl) ?_; intro w2 hw2; rw [HW1.out] at hw2; subst hw2)
        | (refine wpList_lenA rfl (.tmp 21) 22 5 rfl Try.underlying22 vb l HB.out rfl ?_; rw [HY.out])
        | (go_at_call 28; refine (may_any name _ HN.out).mono ?_; rintro e w' ⟨rfl, rfl⟩))
      go_ret
      exact ⟨ρ, rfl, HW.out, db, mb, n, D, rfl, HT.out⟩
    · rw [if_neg hbig]
      have hbig' : (l.length : Int) ≤ 1048576 := by omega
      have HS : Hid (l.length ≤ 1048576) := by show _ ≤ _; omega
      have hm : n + 1 < maxLen := by have := HF.out; have := HC.out; unfold maxLen; omega
      have hupd : ∀ (b : Nat) (x : World), Sd w1 mb name x → (Instr.mapUpdate 55 (.map (some mb)) (.string name) (.pointer (some ⟨b, 0, none⟩))).run Try.prog x = .ok () (updW mb name b x) := fun b x hx => Sd.run HT.out name HN.out hm b x hx
      have HCELL : Hid (∀ x : World, Sd w1 mb name x → x.cell? ⟨db, 0, none⟩ = some (.map (some mb))) := fun x hx => Sd.cell HT.out name HN.out (by omega) x hx
      have HNO : Hid (No w1 w1) := Fr.refl _ _
      have HM := _root_.Go.Lib.hid hm
      clear hm
      have HFM : Hid (RA w1 vb l) := HB.out
      have hcase : (vb = .slice none 0 0 ∧ l.length = 0) ∨ ∃ a cap, vb = .slice (some a) l.length cap := by
        rcases HB.out with ⟨h1, rfl⟩ | ⟨a, cap, h1, _⟩
        · exact .inl ⟨h1, rfl⟩
        · exact .inr ⟨a, cap, h1⟩
      rcases hcase with ⟨rfl, hl0⟩ | ⟨ad', cap, rfl⟩
      all_goals
        clear hbig T hn
        try (have HL0 := _root_.Go.Lib.hid hl0; clear hl0)
        generalize hY : l.length = ll at *
        have HY := _root_.Go.Lib.hid hY
        clear hY
        go_enter Try.func20, Try.ntmps20
        go_wp2_with (first
          | (refine wpList_store_at rfl 3 (.tmp 15) (.tmp 13) rfl db 1 (.int .i64 ((c : Int) + 1)) _ rfl rfl rfl rfl h1 z1 (by kernel_rfl) ?_; intro w2 hw2; rw [HW1.out] at hw2; subst hw2)
          | (go_at_call 28; refine (may_any name _ HN.out).mono ?_; rintro e wz ⟨rfl, rfl⟩))
        have hNo := HNO.out
        go_region_held3 (fun x => x.cell? ⟨db, 0, none⟩ = some (.map (some mb)) ∧ Sd wz mb name x)
          (first
            | exact ⟨HCELL.out _ (.inl hNo.drew), .inl hNo.drew⟩
            | exact ⟨HCELL.out _ (.inl (hNo.drew.trans X2 (fun _ _ a => a))), .inl (hNo.drew.trans X2 (fun _ _ a => a))⟩
            | exact ⟨HCELL.out _ (.inl ((hNo.drew.trans X2 (fun _ _ a => a)).alloc _)), .inl ((hNo.drew.trans X2 (fun _ _ a => a)).alloc _)⟩
            | exact ⟨HCELL.out _ (.inr ⟨_, _, (hNo.drew.trans X2 (fun _ _ a => a)).alloc _, rfl⟩), .inr ⟨_, _, (hNo.drew.trans X2 (fun _ _ a => a)).alloc _, rfl⟩⟩)
          (first | (go_at_call 29; refine (BClone_any _ l _ (RA.no HB.out hNo.drew) (by have := HS.out; have := HY.out; omega)).mono ?_; rintro e w' ⟨v', rfl, X1, X2, X3, X4⟩; obtain ⟨ad, sn, sc, hvf⟩ := OB.form X1; subst hvf; clear X4))
        have hY1 := (hNo.drew.trans X2 (fun _ _ a => a)).alloc (.cells #[.slice ad sn sc, .int .i64 l.length, .bool true] 61)
        have hU := updW_spec name HN.out (ownsMap_keep HT.out.own (hY1.block mb (HT.out.lt mb (by rw [HT.out.mp]; simp)) id)) (by have := HM.out; omega) w'.heap.size
        have hs2 : wz.heap.size ≤ w'.heap.size := by simpa using X2.size
        have HE := _root_.Go.Lib.hid (HT.out.laid name.data.toList ⟨l, l.length, true⟩ w'.heap.size (.slice ad sn sc) (hY1.mono fun _ _ a => a.elim) (.inr hs2) (fun k hk => ⟨.inr (by simpa using X3 k hk), by have := (Ow.rd X1).lt k hk; omega⟩)
          (heap_alloc_new w' _) (X1.alloc _) (Nat.le_refl _) (by have := HS.out; have := HY.out; simp; omega) (by have := HF.out; omega) hU.2.1 hU.2.2)
        rw [HY.out] at HE hY1
        try rw [show ll = 0 from HL0.out] at HE
        clear hU hY1 hs2 X1 X2 X3
        go_wp2
        go_ret
        obtain ⟨ρ', hop, hdk⟩ := HE.out
        try rw [show ll = 0 from HL0.out]
        first
          | exact ⟨ρ', rfl, HW.out.trans hop, db, mb, _, _, rfl, hdk⟩
          | exact ⟨rfl, ρ', HW.out.trans hop, db, mb, _, _, rfl, hdk⟩
end Go.Proofs.Ytgbfbijjbkfglaa
