/-
  The walk of DiskOwn.
-/
import Derived.Test.YtgbfbijjbkfglaaDiskM
namespace Go.Proofs.Ytgbfbijjbkfglaa
open Go.RowKit Go.Maps

theorem OWr.set {w : World} {g cap n : Nat} {l : List UInt8} (h : OWr w (.slice (some ⟨g, 0, none⟩) n cap) l) (i : Nat) (y : UInt8) : OWr (w.setCell ⟨g, i, none⟩ (.int .u8 (by8 y))) (.slice (some ⟨g, 0, none⟩) n cap) (l.set i y) := by
  rcases h with ⟨h1, _⟩ | ⟨g', cap', cur, e, h1, h2, h3, h4, h5, h6⟩
  · cases h1
  · obtain ⟨rfl, rfl, rfl⟩ : g = g' ∧ n = l.length ∧ cap = cap' := by simpa using h1
    refine .inr ⟨g, cap, cur.setIfInBounds i (.int .u8 (by8 y)), e, by rw [List.length_set], ?_, ?_, by rw [List.length_set]; exact h4, h5, by simpa using h6⟩
    · rw [setCell_row _ _ _ _ _ _ _ h2]; exact setRow_heap w g cur _ e _ h2
    · rw [List.length_set, Array.toList_setIfInBounds, List.take_set, h3]
      simp [bs, List.map_set]
theorem OWr.at {w : World} {g cap n : Nat} {l : List UInt8} (h : OWr w (.slice (some ⟨g, 0, none⟩) n cap) l) (i : Nat) (hi : i < l.length) :
    w.cell? ⟨g, i, none⟩ = some (.int .u8 (by8 (l.getD i 0))) ∧ w.frozen? ⟨g, i, none⟩ = false := by
  rcases h with ⟨h1, _⟩ | ⟨g', cap', cur, e, h1, h2, h3, h4, h5, h6⟩
  · cases h1
  · obtain ⟨rfl, rfl, rfl⟩ : g = g' ∧ n = l.length ∧ cap = cap' := by simpa using h1
    refine ⟨?_, frozen_of_row _ _ _ _ _ h2⟩
    rw [cell_of_row _ _ _ _ _ _ h2]
    have : (cur.toList.take l.length)[i]? = (bs l)[i]? := by rw [h3]
    rw [List.getElem?_take, if_pos hi, bs_get] at this
    rw [← Array.getElem?_toList, this]
    simp [hi]
theorem by8_succ (x : UInt8) : IntKind.u8.wrap (by8 x + 1) = by8 (x + 1) := by
  have h := x.toNat_lt
  rw [IntKind.wrap_u8']
  have e : (1 : UInt8).toNat = 1 := rfl
  simp only [by8, UInt8.toNat_add, e]
  omega

set_option maxRecDepth 100000 in
theorem Short_any (a : Option Addr) (cap : Nat) (l : List UInt8) (w : World) (h : RA w (.slice a l.length cap) l) :
    Calls Try.prog 17 #[.slice a l.length cap, .int .i64 60] w fun e w' => (∃ v, e = .returned v ∧ RA w v (l.take 60)) ∧ w' = w := by
  have HA := _root_.Go.Lib.hid h
  by_cases h1 : (60 : Int) < l.length
  · have hcap : l.length ≤ cap := by
      rcases h with ⟨h2, rfl⟩ | ⟨x, c, h2, h3, _⟩
      · simp at h1
      · simp at h2; omega
    have hc : (60 : Int) ≤ cap := by omega
    have HT := _root_.Go.Lib.hid (h.take 60 (by omega))
    clear h hcap
    go_enter Try.func17, Try.ntmps17
    go_wp2
    go_ret
    exact ⟨⟨_, rfl, HT.out⟩, rfl⟩
  · have h2 : (l.length : Int) ≤ 60 := by omega
    have HT : Hid (l.take 60 = l) := List.take_of_length_le (by omega)
    clear h h1
    go_enter Try.func17, Try.ntmps17
    go_wp2
    go_ret
    exact ⟨⟨_, rfl, by rw [HT.out]; exact HA.out⟩, rfl⟩

set_option maxRecDepth 100000 in
set_option maxHeartbeats 4000000 in
theorem DiskOwn_walk (vb : Value) (lb : List UInt8) (w : World) (hb : RA w vb lb) :
    Calls Try.prog 6 #[vb] w fun e w' => e = .returned (.bool true) ∧ No w w' := by
  have hn1 : (ByteArray.mk #[97]).size ≤ maxLen := by decide
  have hn2 : (ByteArray.mk #[98]).size ≤ maxLen := by decide
  have HN := _root_.Go.Lib.hid hn1
  have HN2 := _root_.Go.Lib.hid hn2
  have HB := _root_.Go.Lib.hid hb
  obtain ⟨ab, cb, rfl⟩ := hb.form
  have HLL : Hid ((lb.take 60).length ≤ 60) := by show _ ≤ _; rw [List.length_take]; omega
  clear hn1 hn2 hb
  go_enter Try.func6, Try.ntmps6
  go_wp2_with (first
    | (go_at_call 20; refine (DSwap_is (M' := setM (setM (fun _ => none) [97] (some ⟨lb.take 60, 0, false⟩)) [98] (some ⟨lb.take 60, (lb.take 60).length, true⟩)) C2.out HN2.out (by omega) _ (lb.take 60) ((K1.out.no C1.out.1).ob.rb.ra) (fun k hk hl => role_old C1.out.2 k (K1.out.ob.rb.lt k hk)) (by have := HLL.out; omega) 0 (by rw [swapOf_ok _ _ _ rfl (by have := HLL.out; omega)] <;> rfl) (by rw [swapOf_ok _ _ _ rfl (by have := HLL.out; omega)] <;> rfl)).mono ?_; rintro e w5 ⟨rfl, ρ2, hop, hdk⟩; have D1 := _root_.Go.Lib.hid (hop.fresh C1.out.1 C1.out.2); have D2 := _root_.Go.Lib.hid hdk; clear hop hdk)
    | (go_at_call 12; refine (DApp_is (M' := setM (fun _ => none) [97] (some ⟨lb.take 60, 0, false⟩)) ⟨db, mb, nn, D0, rfl, B1.out⟩ HN.out (by omega) _ (lb.take 60) ((K1.out.no B2.out).ob.rb.ra) (fun k hk hl => role_old B3.out k (K1.out.ob.rb.lt k hk)) (by have := HLL.out; omega) 0 (by rw [appOf_new _ _ _ rfl rfl (by have := HLL.out; omega)] <;> rfl) (by rw [appOf_new _ _ _ rfl rfl (by have := HLL.out; omega)] <;> rfl)).mono ?_; rintro e w4 ⟨rfl, ρ1, hop, hdk⟩; have C1 := _root_.Go.Lib.hid (hop.fresh B2.out B3.out); have C2 := _root_.Go.Lib.hid hdk; clear hop hdk)
    | (go_at_call 11; refine (DNew_any _).mono ?_; rintro e w3 ⟨dd, ρ0, rfl, hD, hN, hR⟩; obtain ⟨db, mb, nn, D0, hdd, hD⟩ := hD; subst hdd; have B1 := _root_.Go.Lib.hid hD; have B2 := _root_.Go.Lib.hid hN; have B3 := _root_.Go.Lib.hid hR; clear hD hN hR)
    | (at_builtin; refine wpList_append_fresh rfl (.const (.slice none 0 0)) (.tmp 18) 22 22 rfl 5 Try.underlying22 Try.info5 none (.inl rfl) rfl _ rfl (lb.take 60) (RA.src Try.underlying22 S1.out) (by have := HLL.out; omega) ?_; intro v1 w2 hv hg ho hni; clear hni; have K1 := _root_.Go.Lib.hid hv; have K2 := _root_.Go.Lib.hid (A1.out.trans hg (fun _ _ a => a)); have HGW := _root_.Go.Lib.hid (fun (k : Nat) (hk : v1.ownBlock = some k) => (ho k hk).elim (fun ⟨_, h, _⟩ => by cases h) (fun h => Nat.le_trans A1.out.size h)); have hwant := text_of Try.underlying22 Try.underlying5 Try.underlying9 hv.ob.rb; clear hv hg ho)
    | (go_at_call 17; refine (Short_any _ _ lb _ (HB.out.no A1.out)).mono ?_; rintro e w9 ⟨⟨vs, rfl, hs⟩, rfl⟩; have S1 := _root_.Go.Lib.hid hs; clear hs)
    | (go_at_call 10; refine (begun_any _).mono ?_; rintro e w1 ⟨rfl, h1⟩; have A1 := _root_.Go.Lib.hid h1; clear h1))
  have HLE : Hid ((((lb.take 60).length : Nat) : Int) ≤ 60) := by show _ ≤ _; have := HLL.out; omega
  have HW : Hid (No w w5) := K2.out.trans D1.out.1 (fun _ _ a => a)
  have HK : Hid (OWr w5 v1 (lb.take 60)) := K1.out.no D1.out.1
  have HV : Hid (∀ k, v1.ownBlock = some k → k < w2.heap.size) := K1.out.ob.rb.lt
  generalize lb.take 60 = l at *
  rcases HK.out with ⟨rfl, hl0⟩ | ⟨g, cap, cur, e1, rfl, _, _, hcap, _, _⟩
  · go_loopw [6] (fun x wr => x = .int .i64 0 ∧ wr = w5) (fun _ _ => 0)
    case atStart => exact ⟨rfl, rfl⟩
    case round =>
      obtain ⟨rfl, rfl⟩ := hrel
      clear hl0
      have TD := _root_.Go.Lib.hid D2.out
      have TW := _root_.Go.Lib.hid HW.out
      go_wp2_with (go_at_call 15; refine (DRead_some TD.out HN.out ⟨l, 0, false⟩ rfl).mono ?_; rintro e w7 ⟨v7, rfl, h7, _, n7, o7⟩; have R1 := _root_.Go.Lib.hid h7; have R2 := _root_.Go.Lib.hid o7; have R3 := _root_.Go.Lib.hid n7; clear h7 n7 o7)
      rcases R2.out with ⟨rfl, hl1⟩ | ⟨g2, cap2, cur2, e2, rfl, _, _, _, _, _⟩
      · go_loopw [9] (fun x wr => x = .int .i64 0 ∧ wr = w7) (fun _ _ => 0)
        case atStart => exact ⟨rfl, rfl⟩
        case round =>
          obtain ⟨rfl, rfl⟩ := hrel
          have T3 := _root_.Go.Lib.hid (TD.out.no R1.out)
          have T4 := _root_.Go.Lib.hid (TW.out.trans R1.out (fun _ _ a => a))
          go_wp2_with (first
            | (go_at_call 15; refine (DRead_some (T3.out.no U1.out) HN2.out ⟨l, l.length, true⟩ rfl).mono ?_; rintro e w10 ⟨v10, rfl, h10, k10, _, _⟩; have U3 := _root_.Go.Lib.hid (T4.out.trans (U1.out.trans h10 (fun _ _ a => a)) (fun _ _ a => a)); have hx := text_of Try.underlying22 Try.underlying5 Try.underlying9 ((U2.out.no h10).rb); have hy := text_of Try.underlying22 Try.underlying5 Try.underlying9 k10.rb; clear h10 k10)
            | (go_at_call 15; refine (DRead_some T3.out HN.out ⟨l, 0, false⟩ rfl).mono ?_; rintro e w8 ⟨v8, rfl, h8, k8, _, _⟩; have U1 := _root_.Go.Lib.hid h8; have U2 := _root_.Go.Lib.hid k8; clear h8 k8))
          go_ret
          exact ⟨rfl, U3.out⟩
      · have hle2 := HLE.out
        go_loopw [9] (fun x wr => ∃ i : Nat, i ≤ l.length ∧ x = .int .i64 i ∧ ∃ l', l'.length = l.length ∧ OWr wr (.slice (some ⟨g2, 0, none⟩) l.length cap2) l' ∧ Fr (fun k => k = g2) w7 wr) (fun x _ => l.length - (intOf x).toNat)
        case atStart => exact ⟨0, by omega, rfl, l, rfl, R2.out, Fr.refl _ _⟩
        case round =>
          obtain ⟨i, hi, rfl, l', hl', hO, hf⟩ := hrel
          have YO := _root_.Go.Lib.hid hO
          have YF := _root_.Go.Lib.hid hf
          have YL := _root_.Go.Lib.hid hl'
          clear hO hf hl'
          by_cases hin : i < l.length
          · have hin' : (i : Int) < l.length := by omega
            obtain ⟨cc, ff⟩ := YO.out.at i (by rw [YL.out]; exact hin)
            have hw := by8_succ (l'.getD i 0)
            have YS := _root_.Go.Lib.hid (YO.out.set i (l'.getD i 0 + 1))
            generalize l'.getD i 0 = x at *
            go_wp2
            go_roundw
            case rel => exact ⟨i + 1, by omega, by go_num, _, by rw [List.length_set, YL.out], YS.out, YF.out.setCell _ _ (fun _ => rfl)⟩
            case measure => simp [intOf]; omega
          · obtain rfl : i = l.length := by omega
            have hg2 := R3.out g2 rfl
            have T3 := _root_.Go.Lib.hid ((TD.out.no R1.out).fr YF.out (fun k hk e => by have := TD.out.lt k hk; omega))
            have T4 := _root_.Go.Lib.hid ((TW.out.trans R1.out (fun _ _ a => a)).trans YF.out (fun k hk e => by have := TW.out.size; omega))
            clear hg2
            go_wp2_with (first
              | (go_at_call 15; refine (DRead_some (T3.out.no U1.out) HN2.out ⟨l, l.length, true⟩ rfl).mono ?_; rintro e w10 ⟨v10, rfl, h10, k10, _, _⟩; have U3 := _root_.Go.Lib.hid (T4.out.trans (U1.out.trans h10 (fun _ _ a => a)) (fun _ _ a => a)); have hx := text_of Try.underlying22 Try.underlying5 Try.underlying9 ((U2.out.no h10).rb); have hy := text_of Try.underlying22 Try.underlying5 Try.underlying9 k10.rb; clear h10 k10)
              | (go_at_call 15; refine (DRead_some T3.out HN.out ⟨l, 0, false⟩ rfl).mono ?_; rintro e w8 ⟨v8, rfl, h8, k8, _, _⟩; have U1 := _root_.Go.Lib.hid h8; have U2 := _root_.Go.Lib.hid k8; clear h8 k8))
            go_ret
            exact ⟨rfl, U3.out⟩
  · clear hcap
    have hle := HLE.out
    go_loopw [6] (fun x wr => ∃ i : Nat, i ≤ l.length ∧ x = .int .i64 i ∧ ∃ l', l'.length = l.length ∧ OWr wr (.slice (some ⟨g, 0, none⟩) l.length cap) l' ∧ Fr (fun k => k = g) w5 wr) (fun x _ => l.length - (intOf x).toNat)
    case atStart => exact ⟨0, by omega, rfl, l, rfl, HK.out, Fr.refl _ _⟩
    case round =>
      obtain ⟨i, hi, rfl, l', hl', hO, hf⟩ := hrel
      have XO := _root_.Go.Lib.hid hO
      have XF := _root_.Go.Lib.hid hf
      have XL := _root_.Go.Lib.hid hl'
      clear hO hf hl'
      by_cases hin : i < l.length
      · have hin' : (i : Int) < l.length := by omega
        obtain ⟨cc, ff⟩ := XO.out.at i (by rw [XL.out]; exact hin)
        have hw := by8_succ (l'.getD i 0)
        have XS := _root_.Go.Lib.hid (XO.out.set i (l'.getD i 0 + 1))
        generalize l'.getD i 0 = x at *
        go_wp2
        go_roundw
        case rel => exact ⟨i + 1, by omega, by go_num, _, by rw [List.length_set, XL.out], XS.out, XF.out.setCell _ _ (fun _ => rfl)⟩
        case measure => simp [intOf]; omega
      · obtain rfl : i = l.length := by omega
        have hgl := HV.out g rfl
        have hgw := HGW.out g rfl
        have TD := _root_.Go.Lib.hid (D2.out.fr XF.out (fun k hk e => by have := D1.out.2 k hk; omega))
        have TW := _root_.Go.Lib.hid (HW.out.trans XF.out (fun k hk e => by omega))
        clear hgl hgw
        go_wp2_with (go_at_call 15; refine (DRead_some TD.out HN.out ⟨l, 0, false⟩ rfl).mono ?_; rintro e w7 ⟨v7, rfl, h7, _, n7, o7⟩; have R1 := _root_.Go.Lib.hid h7; have R2 := _root_.Go.Lib.hid o7; have R3 := _root_.Go.Lib.hid n7; clear h7 n7 o7)
        rcases R2.out with ⟨rfl, hl1⟩ | ⟨g2, cap2, cur2, e2, rfl, _, _, _, _, _⟩
        · go_loopw [9] (fun x wr => x = .int .i64 0 ∧ wr = w7) (fun _ _ => 0)
          case atStart => exact ⟨rfl, rfl⟩
          case round =>
            obtain ⟨rfl, rfl⟩ := hrel
            have T3 := _root_.Go.Lib.hid (TD.out.no R1.out)
            have T4 := _root_.Go.Lib.hid (TW.out.trans R1.out (fun _ _ a => a))
            go_wp2_with (first
              | (go_at_call 15; refine (DRead_some (T3.out.no U1.out) HN2.out ⟨l, l.length, true⟩ rfl).mono ?_; rintro e w10 ⟨v10, rfl, h10, k10, _, _⟩; have U3 := _root_.Go.Lib.hid (T4.out.trans (U1.out.trans h10 (fun _ _ a => a)) (fun _ _ a => a)); have hx := text_of Try.underlying22 Try.underlying5 Try.underlying9 ((U2.out.no h10).rb); have hy := text_of Try.underlying22 Try.underlying5 Try.underlying9 k10.rb; clear h10 k10)
              | (go_at_call 15; refine (DRead_some T3.out HN.out ⟨l, 0, false⟩ rfl).mono ?_; rintro e w8 ⟨v8, rfl, h8, k8, _, _⟩; have U1 := _root_.Go.Lib.hid h8; have U2 := _root_.Go.Lib.hid k8; clear h8 k8))
            go_ret
            exact ⟨rfl, U3.out⟩
        · have hle2 := HLE.out
          go_loopw [9] (fun x wr => ∃ i : Nat, i ≤ l.length ∧ x = .int .i64 i ∧ ∃ l', l'.length = l.length ∧ OWr wr (.slice (some ⟨g2, 0, none⟩) l.length cap2) l' ∧ Fr (fun k => k = g2) w7 wr) (fun x _ => l.length - (intOf x).toNat)
          case atStart => exact ⟨0, by omega, rfl, l, rfl, R2.out, Fr.refl _ _⟩
          case round =>
            obtain ⟨i, hi, rfl, l', hl', hO, hf⟩ := hrel
            have YO := _root_.Go.Lib.hid hO
            have YF := _root_.Go.Lib.hid hf
            have YL := _root_.Go.Lib.hid hl'
            clear hO hf hl'
            by_cases hin : i < l.length
            · have hin' : (i : Int) < l.length := by omega
              obtain ⟨cc, ff⟩ := YO.out.at i (by rw [YL.out]; exact hin)
              have hw := by8_succ (l'.getD i 0)
              have YS := _root_.Go.Lib.hid (YO.out.set i (l'.getD i 0 + 1))
              generalize l'.getD i 0 = x at *
              go_wp2
              go_roundw
              case rel => exact ⟨i + 1, by omega, by go_num, _, by rw [List.length_set, YL.out], YS.out, YF.out.setCell _ _ (fun _ => rfl)⟩
              case measure => simp [intOf]; omega
            · obtain rfl : i = l.length := by omega
              have hg2 := R3.out g2 rfl
              have T3 := _root_.Go.Lib.hid ((TD.out.no R1.out).fr YF.out (fun k hk e => by have := TD.out.lt k hk; omega))
              have T4 := _root_.Go.Lib.hid ((TW.out.trans R1.out (fun _ _ a => a)).trans YF.out (fun k hk e => by have := TW.out.size; omega))
              clear hg2
              go_wp2_with (first
                | (go_at_call 15; refine (DRead_some (T3.out.no U1.out) HN2.out ⟨l, l.length, true⟩ rfl).mono ?_; rintro e w10 ⟨v10, rfl, h10, k10, _, _⟩; have U3 := _root_.Go.Lib.hid (T4.out.trans (U1.out.trans h10 (fun _ _ a => a)) (fun _ _ a => a)); have hx := text_of Try.underlying22 Try.underlying5 Try.underlying9 ((U2.out.no h10).rb); have hy := text_of Try.underlying22 Try.underlying5 Try.underlying9 k10.rb; clear h10 k10)
                | (go_at_call 15; refine (DRead_some T3.out HN.out ⟨l, 0, false⟩ rfl).mono ?_; rintro e w8 ⟨v8, rfl, h8, k8, _, _⟩; have U1 := _root_.Go.Lib.hid h8; have U2 := _root_.Go.Lib.hid k8; clear h8 k8))
              go_ret
              exact ⟨rfl, U3.out⟩
end Go.Proofs.Ytgbfbijjbkfglaa
