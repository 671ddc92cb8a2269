/-
  Append, Swap: what they compute.
-/
import Derived.Test.YtgbfbijjbkfglaaDiskE
namespace Go.Proofs.Ytgbfbijjbkfglaa
open Go.RowKit Go.Maps

/-- What Append tells, and what it makes of the files. -/
def appOf (M : List UInt8 → Option Fl) (nm l : List UInt8) : Nat × (List UInt8 → Option Fl) :=
  if good nm = false then (1, M) else
  match M nm with
  | none => if 1048576 < l.length then (5, M) else (0, setM M nm (some ⟨l, 0, false⟩))
  | some f => if 1048576 < f.b.length + l.length then (5, M) else (0, setM M nm (some { f with b := f.b ++ l }))
def swapOf (M : List UInt8 → Option Fl) (nm l : List UInt8) : Nat × (List UInt8 → Option Fl) :=
  if good nm = false then (1, M) else if 1048576 < l.length then (5, M) else (0, setM M nm (some ⟨l, l.length, true⟩))

theorem app_step {w1 wa w3 : World} {ρ : Nat → Role} {db mb n : Nat} {D : DataW Nat} {M : List UInt8 → Option Fl} {c q : Nat} (T : DKs w1 ρ db mb n D M c q) (nm : List UInt8) (b : Nat) (v v3 : Value) (la : Int) (th : Bool) (l3 : List UInt8)
    (hfa : Fr (fun k => ρ k = .fil nm ∨ ρ k = .byt nm) w1 wa) (hb : wa.heap[b]? = some (.cells #[v, .int .i64 la, .bool th] 61 (0, 0))) (hbn : ρ b = .fil nm ∨ w1.heap.size ≤ b)
    (hv : ∀ k, v.ownBlock = some k → ρ k = .byt nm) (hg : Gw wa v w3 v3) (h3 : OB 0 w3 v3 l3) :
    w3.heap[b]? = some (.cells #[v, .int .i64 la, .bool th] 61 (0, 0)) ∧ ∀ w4, w4 = w3.setCell ⟨b, 0, none⟩ v3 → Fr (fun k => ρ k = .fil nm ∨ ρ k = .byt nm) w1 w4 ∧ w4.heap[b]? = some (.cells #[v3, .int .i64 la, .bool th] 61 (0, 0)) ∧
      OB 0 w4 v3 l3 ∧ w4.cell? ⟨db, 0, none⟩ = some (.map (some mb)) ∧ w4.ownsMap Try.prog 9 ptrElem mb n D ∧ (∀ k, v3.ownBlock = some k → (ρ k = .byt nm ∨ w1.heap.size ≤ k) ∧ k ≠ b) := by
  have hno : ∀ k, w1.heap.size ≤ k → ρ k = .no := fun k e => by
    cases hr : ρ k with
    | no => rfl
    | _ => have := T.lt k (by rw [hr]; simp); omega
  have hvb : ∀ k, v.ownBlock = some k → k ≠ b := by
    rintro k hk rfl
    rcases hbn with e | e
    · rw [hv _ hk] at e; cases e
    · have := hno _ e; rw [hv _ hk] at this; cases this
  have hb3 := hg.heap hb (fun e => hvb b e rfl)
  have hba := lt_of_heap hb
  have hf3 : Fr (fun k => ρ k = .fil nm ∨ ρ k = .byt nm) w1 w3 := hfa.trans hg.fr fun i _ e => .inr (hv i e.symm)
  have hv3 : ∀ k, v3.ownBlock = some k → (ρ k = .byt nm ∨ w1.heap.size ≤ k) ∧ k ≠ b := by
    intro k hk
    rcases hg.own with e | ⟨j, e, hj⟩
    · rw [e] at hk; exact ⟨.inl (hv k hk), hvb k hk⟩
    · rw [e] at hk; cases hk
      exact ⟨.inr (Nat.le_trans hfa.size hj), by omega⟩
  refine ⟨hb3, fun w4 hw4 => ?_⟩
  subst hw4
  have hf4 : Fr (fun k => ρ k = .fil nm ∨ ρ k = .byt nm) w1 (w3.setCell ⟨b, 0, none⟩ v3) := hf3.setCell _ _ fun hlt => hbn.elim .inl fun e => by show _ ∨ _; simp only at hlt; omega
  refine ⟨hf4, by rw [heap_sc hb3]; simp, h3.keep fun k hk => heap_sc_ne _ (hv3 k hk).2 _ _, ?_, ownsMap_keep T.own (hf4.block mb (T.lt mb (by rw [T.mp]; simp)) (by rw [T.mp]; simp)), hv3⟩
  rw [cell_of_row _ _ _ _ _ _ ((hf4.block db (T.lt db (by rw [T.hdr]; simp)) (by rw [T.hdr]; simp)).trans T.cell)]; rfl

theorem elemOf (b : Nat) : ptrElem (.pointer (some ⟨b, 0, none⟩)) = some (.lit (.int .i64 b), []) := rfl

set_option maxRecDepth 100000 in
set_option maxHeartbeats 2000000 in
theorem DApp_any (d : Value) (ρ : Nat → Role) (M : List UInt8 → Option Fl) (c q : Nat) (name : ByteArray) (vb : Value) (l : List UInt8) (w : World) (h : DK w ρ d M c q) (hn : name.size ≤ maxLen) (hc : c + q ≤ 1000000)
    (hvb : RA w vb l) (hvo : ∀ k, vb.ownBlock = some k → l ≠ [] → ρ k = .no) (hlb : l.length ≤ 1000000000000) :
    Calls Try.prog 12 #[d, .string name, vb] w fun e w' => ∃ ρ', e = .returned (.int .i64 (appOf M name.data.toList l).1) ∧ Op' w ρ w' ρ' ∧ DK w' ρ' d (appOf M name.data.toList l).2 (c + 1) q := by
  obtain ⟨db, mb, n, D, rfl, h⟩ := h
  have hfit := h.fit
  obtain ⟨w1, hw1, T, W, h1, z1, g0⟩ := h.ticked
  have hc' : (c : Int) ≤ 1000000 := by omega
  have HT := _root_.Go.Lib.hid T
  have HW := _root_.Go.Lib.hid W
  have HN := _root_.Go.Lib.hid hn
  have HW1 := _root_.Go.Lib.hid hw1
  have HF := _root_.Go.Lib.hid hfit
  have HB : Hid (RA w1 vb l) := W.ra hvb hvo
  have HO := _root_.Go.Lib.hid hvo
  have HC := _root_.Go.Lib.hid hc
  have HL := _root_.Go.Lib.hid hlb
  have hll : (l.length : Int) ≤ 1000000000000 := by omega
  clear h hvb hvo hw1 W hfit hc hlb
  cases hgood : good name.data.toList with
  | false =>
    have HG : Hid (appOf M name.data.toList l = (1, M)) := by show _ = _; simp [appOf, hgood]
    rw [HG.out]
    clear T hn hll
    go_enter Try.func12, Try.ntmps12
    go_wp2_with (first
      | (refine wpList_store_at rfl 3 (.tmp 16) (.tmp 14) rfl db 1 (.int .i64 ((c : Int) + 1)) _ rfl rfl rfl rfl h1 z1 (by kernel_rfl) ?_; intro w2 hw2; rw [HW1.out] at hw2; subst hw2)
      | (go_at_call 28; refine (may_any name _ HN.out).mono ?_; rintro e w' ⟨rfl, rfl⟩))
    go_ret
    exact ⟨ρ, rfl, HW.out, db, mb, n, D, rfl, HT.out⟩
  | true =>
    rcases look_ptr T name hn with ⟨hM, hlook⟩ | ⟨f, b, v, hM, hlook, hDb, hρb, hb, hv, hvr, hl, hb2⟩
    · have HG : Hid (appOf M name.data.toList l = if 1048576 < l.length then (5, M) else (0, setM M name.data.toList (some ⟨l, 0, false⟩))) := by show _ = _; simp [appOf, hgood, hM]
      have hrun := hlook w1 rfl
      have HK := _root_.Go.Lib.hid (WideMaps.keyOf_string_mk (P := Try.prog) Try.underlying9 hn)
      rw [HG.out]
      clear T hn hM hlook
      have HA : Hid ((w1.alloc (.cells #[.slice none 0 0, .int .i64 0, .bool false] 61)).heap[w1.heap.size]? = some (.cells #[.slice none 0 0, .int .i64 ((0 : Nat) : Int), .bool false] 61 (0, 0))) := heap_alloc_new w1 _
      have HB2 : Hid (RA (w1.alloc (.cells #[.slice none 0 0, .int .i64 0, .bool false] 61)) vb l) := RA.alloc HB.out _
      have HFA : Hid (Fr (fun k => ρ k = .fil name.data.toList ∨ ρ k = .byt name.data.toList) w1 (w1.alloc (.cells #[.slice none 0 0, .int .i64 0, .bool false] 61))) := (Fr.refl _ _).alloc _
      by_cases hbig : 1048576 < l.length
      · rw [if_pos hbig]
        have hbig' : (1048576 : Int) - l.length < 0 := by omega
        clear hbig
        generalize hY : l.length = ll at *
        have HY := _root_.Go.Lib.hid hY
        clear hY
        go_enter Try.func12, Try.ntmps12
        go_wp2_with (first
          | (refine wpList_store_at rfl 3 (.tmp 16) (.tmp 14) rfl db 1 (.int .i64 ((c : Int) + 1)) _ rfl rfl rfl rfl h1 z1 (by kernel_rfl) ?_; intro w2 hw2; rw [HW1.out] at hw2; subst hw2)
          | (refine wpList_lenA rfl (.tmp 35) 22 5 rfl Try.underlying22 vb l HB2.out rfl ?_; rw [HY.out])
          | (go_at_call 28; refine (may_any name _ HN.out).mono ?_; rintro e w' ⟨rfl, rfl⟩))
        go_ret
        exact ⟨ρ, rfl, HW.out.trans (Op'.of_no ((Fr.refl _ _).alloc _)), DK.no ⟨db, mb, n, D, rfl, HT.out⟩ ((Fr.refl _ _).alloc _)⟩
      · rw [if_neg hbig]
        have hbig' : (0 : Int) ≤ 1048576 - l.length := by omega
        have hsum : l.length ≤ 1048576 := by omega
        have HS := _root_.Go.Lib.hid hsum
        clear hbig hsum
        generalize hY : l.length = ll at *
        have HY := _root_.Go.Lib.hid hY
        clear hY
        go_enter Try.func12, Try.ntmps12
        go_wp2_with (first
          | (refine wpList_store_at rfl 3 (.tmp 16) (.tmp 14) rfl db 1 (.int .i64 ((c : Int) + 1)) _ rfl rfl rfl rfl h1 z1 (by kernel_rfl) ?_; intro w2 hw2; rw [HW1.out] at hw2; subst hw2)
          | (refine wpList_lenA rfl (.tmp 35) 22 5 rfl Try.underlying22 vb l HB2.out rfl ?_; rw [HY.out])
          | (at_builtin; refine wpList_append_bytes rfl (.tmp 43) (.tmp 44) 22 22 rfl 5 Try.underlying22 Try.info5 (OB.nil 0 _) rfl _ rfl l (RA.src Try.underlying22 HB2.out) (by have := HS.out; have := HY.out; simp; omega) (Nat.zero_le _) ?_; intro v3 w3 hv3 hg3 _;
              have Y1 := _root_.Go.Lib.hid hv3; have Y2 := _root_.Go.Lib.hid (app_step HT.out name.data.toList _ _ v3 _ _ _ HFA.out HA.out (.inr (Nat.le_refl _)) (fun k hk => by simp [Value.ownBlock] at hk) hg3 hv3); clear hv3 hg3;
              have e3 : w3.cell? ⟨_, 0, none⟩ = some (.slice none 0 0) := (by rw [cell_of_row _ _ _ _ _ _ Y2.out.1]; rfl);
              have y3 : w3.frozen? ⟨_, 0, none⟩ = false := frozen_of_row _ _ _ _ _ Y2.out.1)
          | (refine wpList_store_at rfl 22 (.tmp 47) (.tmp 45) rfl _ 0 v3 _ rfl rfl (slice_cells (Ow.rd Y1.out)).1 (slice_cells (Ow.rd Y1.out)).2 e3 y3 (by kernel_rfl) ?_; intro w4 hw4;
              have Y3 := _root_.Go.Lib.hid (Y2.out.2 w4 hw4); have g4 := Y3.out.2.2.2.1; clear hw4)
          | (at_mapUpdate; refine wpList_mapUpdate_own _ rfl (.tmp 51) (.tmp 52) (.tmp 53) 55 rfl 9 59 (string_keyed Try.underlying9) Try.underlying55 ptrElem mb n D rfl Y3.out.2.2.2.2.1 (by have := HF.out; have := HC.out; unfold maxLen; omega) _ _ (.string name.data.toList) rfl rfl HK.out _ [] (elemOf _) ?_;
              intro w5 hown5 hg5; have Y4 := _root_.Go.Lib.hid hown5; have Y5 := _root_.Go.Lib.hid hg5; clear hown5 hg5)
          | (go_at_call 28; refine (may_any name _ HN.out).mono ?_; rintro e w' ⟨rfl, rfl⟩))
        go_ret
        have Z := Y3.out
        rw [List.nil_append] at Z
        obtain ⟨ρ', hop, hdk⟩ := HT.out.laid name.data.toList ⟨l, 0, false⟩ _ v3 Z.1 (.inr (Nat.le_refl _)) Z.2.2.2.2.2 Z.2.1 Z.2.2.1 (Nat.zero_le _) (by have := HS.out; have := HY.out; simp; omega) (by have := HF.out; omega) Y4.out Y5.out
        first
          | exact ⟨ρ', rfl, HW.out.trans hop, db, mb, _, _, rfl, hdk⟩
          | exact ⟨rfl, ρ', HW.out.trans hop, db, mb, _, _, rfl, hdk⟩
    · have HG : Hid (appOf M name.data.toList l = if 1048576 < f.b.length + l.length then (5, M) else (0, setM M name.data.toList (some { f with b := f.b ++ l }))) := by show _ = _; simp [appOf, hgood, hM]
      have hrun := hlook w1 rfl
      have c0 : w1.cell? ⟨b, 0, none⟩ = some v := by rw [cell_of_row _ _ _ _ _ _ hb]; rfl
      have HB' := _root_.Go.Lib.hid hb
      have HR := _root_.Go.Lib.hid hρb
      have HV := _root_.Go.Lib.hid hv
      have HVR := _root_.Go.Lib.hid hvr
      have H2 := _root_.Go.Lib.hid hb2
      have H3 := _root_.Go.Lib.hid hl
      have HK := _root_.Go.Lib.hid (WideMaps.keyOf_string_mk (P := Try.prog) Try.underlying9 hn)
      have hq : (f.b.length : Int) ≤ 1048576 := by omega
      rw [HG.out]
      clear T hn hM hlook hDb hρb hb hv hvr hl hb2
      by_cases hbig : 1048576 < f.b.length + l.length
      · rw [if_pos hbig]
        have hbig' : (1048576 : Int) - l.length < f.b.length := by omega
        clear hbig
        generalize hX : f.b.length = fl at *
        generalize hY : l.length = ll at *
        have HX := _root_.Go.Lib.hid hX
        have HY := _root_.Go.Lib.hid hY
        clear hX hY
        go_enter Try.func12, Try.ntmps12
        go_wp2_with (first
          | (refine wpList_store_at rfl 3 (.tmp 16) (.tmp 14) rfl db 1 (.int .i64 ((c : Int) + 1)) _ rfl rfl rfl rfl h1 z1 (by kernel_rfl) ?_; intro w2 hw2; rw [HW1.out] at hw2; subst hw2)
          | (refine wpList_len rfl (.tmp 33) 22 5 rfl Try.underlying22 v 1 _ _ (Ow.rd HV.out) rfl ?_; rw [HX.out])
          | (refine wpList_lenA rfl (.tmp 35) 22 5 rfl Try.underlying22 vb l HB.out rfl ?_; rw [HY.out])
          | (go_at_call 28; refine (may_any name _ HN.out).mono ?_; rintro e w' ⟨rfl, rfl⟩))
        go_ret
        exact ⟨ρ, rfl, HW.out, db, mb, n, D, rfl, HT.out⟩
      · rw [if_neg hbig]
        have hbig' : (f.b.length : Int) ≤ 1048576 - l.length := by omega
        have hsum : f.b.length + l.length ≤ 1048576 := by omega
        have HS := _root_.Go.Lib.hid hsum
        clear hbig hsum
        generalize hX : f.b.length = fl at *
        generalize hY : l.length = ll at *
        have HX := _root_.Go.Lib.hid hX
        have HY := _root_.Go.Lib.hid hY
        clear hX hY
        go_enter Try.func12, Try.ntmps12
        go_wp2_with (first
          | (refine wpList_store_at rfl 3 (.tmp 16) (.tmp 14) rfl db 1 (.int .i64 ((c : Int) + 1)) _ rfl rfl rfl rfl h1 z1 (by kernel_rfl) ?_; intro w2 hw2; rw [HW1.out] at hw2; subst hw2)
          | (refine wpList_len rfl (.tmp 33) 22 5 rfl Try.underlying22 v 1 _ _ (Ow.rd HV.out) rfl ?_; rw [HX.out])
          | (refine wpList_lenA rfl (.tmp 35) 22 5 rfl Try.underlying22 vb l HB.out rfl ?_; rw [HY.out])
          | (at_builtin; refine wpList_append_bytes rfl (.tmp 43) (.tmp 44) 22 22 rfl 5 Try.underlying22 Try.info5 HV.out rfl _ rfl l (RA.src Try.underlying22 HB.out) (by have := HS.out; have := HX.out; have := HY.out; omega) (Nat.zero_le _) ?_; intro v3 w3 hv3 hg3 _;
              have Y1 := _root_.Go.Lib.hid hv3; have Y2 := _root_.Go.Lib.hid (app_step HT.out name.data.toList b v v3 _ _ _ (Fr.refl _ _) HB'.out (.inl HR.out) HVR.out hg3 hv3); clear hv3 hg3;
              have e3 : w3.cell? ⟨b, 0, none⟩ = some v := (by rw [cell_of_row _ _ _ _ _ _ Y2.out.1]; rfl);
              have y3 : w3.frozen? ⟨b, 0, none⟩ = false := frozen_of_row _ _ _ _ _ Y2.out.1)
          | (refine wpList_store_at rfl 22 (.tmp 47) (.tmp 45) rfl b 0 v3 _ rfl rfl (slice_cells (Ow.rd Y1.out)).1 (slice_cells (Ow.rd Y1.out)).2 e3 y3 (by kernel_rfl) ?_; intro w4 hw4;
              have Y3 := _root_.Go.Lib.hid (Y2.out.2 w4 hw4); have g4 := Y3.out.2.2.2.1; clear hw4)
          | (at_mapUpdate; refine wpList_mapUpdate_own _ rfl (.tmp 51) (.tmp 52) (.tmp 53) 55 rfl 9 59 (string_keyed Try.underlying9) Try.underlying55 ptrElem mb n D rfl Y3.out.2.2.2.2.1 (by have := HF.out; have := HC.out; unfold maxLen; omega) _ _ (.string name.data.toList) rfl rfl HK.out _ [] (elemOf b) ?_;
              intro w5 hown5 hg5; have Y4 := _root_.Go.Lib.hid hown5; have Y5 := _root_.Go.Lib.hid hg5; clear hown5 hg5)
          | (go_at_call 28; refine (may_any name _ HN.out).mono ?_; rintro e w' ⟨rfl, rfl⟩))
        go_ret
        obtain ⟨ρ', hop, hdk⟩ := HT.out.laid name.data.toList { f with b := f.b ++ l } b v3 Y3.out.1 (.inl HR.out) Y3.out.2.2.2.2.2 Y3.out.2.1 Y3.out.2.2.1 (by have := H3.out; have := HX.out; simp; omega) (by have := HS.out; have := HX.out; have := HY.out; simp; omega) (by have := HF.out; omega) Y4.out Y5.out
        first
          | exact ⟨ρ', rfl, HW.out.trans hop, db, mb, _, _, rfl, hdk⟩
          | exact ⟨rfl, ρ', HW.out.trans hop, db, mb, _, _, rfl, hdk⟩
end Go.Proofs.Ytgbfbijjbkfglaa
