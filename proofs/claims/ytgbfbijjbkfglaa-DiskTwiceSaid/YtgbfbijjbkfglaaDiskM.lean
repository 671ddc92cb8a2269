/-
  The walk of DiskFront.
-/
import Derived.Test.YtgbfbijjbkfglaaDiskL
namespace Go.Proofs.Ytgbfbijjbkfglaa
open Go.RowKit Go.Maps

theorem RA.take {w : World} {a : Option Addr} {n cap : Nat} {l : List UInt8} (h : RA w (.slice a n cap) l) (k : Nat) (hk : k ≤ l.length) : RA w (.slice a k cap) (l.take k) := by
  rcases h with ⟨h1, rfl⟩ | ⟨x, c, h1, h2, h3, h4⟩
  · simp at h1 hk
    obtain ⟨rfl, rfl, rfl⟩ := h1
    subst hk
    exact .inl ⟨rfl, rfl⟩
  · simp at h1
    obtain ⟨rfl, rfl, rfl⟩ := h1
    have hl : (l.take k).length = k := by rw [List.length_take]; omega
    refine .inr ⟨x, cap, by rw [hl], by omega, h3, fun j hj => ?_⟩
    rw [hl] at hj
    rw [h4 j (by omega), List.getD_eq_getElem?_getD, List.getD_eq_getElem?_getD, List.getElem?_take, if_pos hj]
theorem crashM_front (n : Int) (M : List UInt8 → Option Fl) (nm la lb : List UInt8) (h0 : 0 ≤ n) :
    crashM n (setM M nm (some ⟨la ++ lb, la.length, true⟩)) nm = some ⟨la ++ lb.take (n.toNat % (lb.length + 1)), la.length + n.toNat % (lb.length + 1), true⟩ := by
  have hk : keepOf n ⟨la ++ lb, la.length, true⟩ = la.length + n.toNat % (lb.length + 1) := by
    unfold keepOf
    rw [if_pos h0]
    simp
  simp only [crashM, setM_same, Option.bind_some, crashF, hk]
  rw [if_pos (by simp), List.take_length_add_append]

set_option maxRecDepth 100000 in
set_option maxHeartbeats 2000000 in
theorem DiskFront_walk (va vb : Value) (la lb : List UInt8) (n : Int) (w : World) (ha : RA w va la) (hb : RA w vb lb) (hva : ∀ k, va.ownBlock = some k → la ≠ [] → k < w.heap.size) (hvb : ∀ k, vb.ownBlock = some k → lb ≠ [] → k < w.heap.size) (hn0 : -9223372036854775808 ≤ n) (hn1 : n ≤ 9223372036854775807) :
    Calls Try.prog 3 #[va, vb, .int .i64 n] w fun e w' => e = .returned (.bool true) ∧ No w w' := by
  have hnm : (ByteArray.mk #[102]).size ≤ maxLen := by decide
  have HN := _root_.Go.Lib.hid hnm
  have HA := _root_.Go.Lib.hid ha
  have HB := _root_.Go.Lib.hid hb
  have HVA := _root_.Go.Lib.hid hva
  have HVB := _root_.Go.Lib.hid hvb
  have HI : Hid (-9223372036854775808 ≤ n ∧ n ≤ 9223372036854775807) := ⟨hn0, hn1⟩
  obtain ⟨aa, ca, rfl⟩ := ha.form
  have hcb : ∃ ab cb, vb = .slice ab lb.length cb ∧ lb.length ≤ cb := by
    rcases hb with ⟨rfl, rfl⟩ | ⟨a, cap, rfl, h, _⟩
    · exact ⟨none, 0, rfl, Nat.le_refl _⟩
    · exact ⟨some a, cap, rfl, h⟩
  obtain ⟨ab, cb, rfl, hcb⟩ := hcb
  clear hnm ha hb hva hvb hn0 hn1
  by_cases h1 : (60 : Int) < la.length
  · go_enter Try.func3, Try.ntmps3
    go_wp2_with (go_at_call 10; refine (begun_any _).mono ?_; rintro e w1 ⟨rfl, h1⟩; have A1 := _root_.Go.Lib.hid h1; clear h1)
    go_ret
    exact ⟨rfl, A1.out⟩
  · by_cases h2 : (60 : Int) < lb.length
    · have h1' : (la.length : Int) ≤ 60 := by omega
      clear h1
      go_enter Try.func3, Try.ntmps3
      go_wp2_with (go_at_call 10; refine (begun_any _).mono ?_; rintro e w1 ⟨rfl, h1⟩; have A1 := _root_.Go.Lib.hid h1; clear h1)
      go_ret
      exact ⟨rfl, A1.out⟩
    · have h1' : (la.length : Int) ≤ 60 := by omega
      have h2' : (lb.length : Int) ≤ 60 := by omega
      have HLA : Hid (la.length ≤ 60) := by show _ ≤ _; omega
      have HLB : Hid (lb.length ≤ 60) := by show _ ≤ _; omega
      clear h1 h2
      by_cases h3 : n < 0
      · go_enter Try.func3, Try.ntmps3
        go_wp2_with (go_at_call 10; refine (begun_any _).mono ?_; rintro e w1 ⟨rfl, h1⟩; have A1 := _root_.Go.Lib.hid h1; clear h1)
        go_ret
        exact ⟨rfl, A1.out⟩
      · have h3' : 0 ≤ n := by omega
        have H0 := _root_.Go.Lib.hid h3'
        clear h3
        obtain ⟨r, hr⟩ : ∃ r, n.toNat % (lb.length + 1) = r := ⟨_, rfl⟩
        have hrl : r ≤ lb.length := by have := Nat.mod_lt n.toNat (show 0 < lb.length + 1 by omega); omega
        have hrt : Int.tmod n ((lb.length : Int) + 1) = (r : Int) := by
          obtain ⟨m, rfl⟩ := Int.eq_ofNat_of_zero_le h3'
          rw [← hr]; rfl
        have HCM : Hid (∀ M : List UInt8 → Option Fl, crashM n (setM M [102] (some ⟨la ++ lb, la.length, true⟩)) [102] = some ⟨la ++ lb.take r, la.length + r, true⟩) := fun M => by rw [crashM_front n M [102] la lb h3', hr]
        have HRL := _root_.Go.Lib.hid hrl
        have hr1 : (0 : Int) ≤ r := by omega
        have hr2 : (r : Int) ≤ 60 := by omega
        have hr3 : (r : Int) ≤ cb := by omega
        have hcat := fun w : World => run_string_add_lists (P := Try.prog) w la (lb.take r) (by have := HLA.out; omega) (by rw [List.length_take]; have := HLB.out; omega)
        have hlr : (lb.take r).length = r := by rw [List.length_take]; omega
        clear hr hrl hcb
        go_enter Try.func3, Try.ntmps3
        go_wp2_with (first
          | (go_at_call 15; refine (DRead_some E1.out HN.out ⟨la ++ lb.take r, la.length + r, true⟩ (HCM.out _)).mono ?_; rintro e w7 ⟨v7, rfl, h7, k7, _⟩; have F1 := _root_.Go.Lib.hid (E2.out.trans h7 (fun _ _ a => a)); have F2 := _root_.Go.Lib.hid k7; clear h7 k7)
          | (go_at_call 14; refine (DCrash_any _ ρ2 _ 3 0 n _ D2.out (by omega) HI.out.1 HI.out.2).mono ?_; rintro e w6 ⟨dc, ρc, qc, rfl, hD, hN, _, _⟩; have E1 := _root_.Go.Lib.hid hD; have E2 := _root_.Go.Lib.hid (D1.out.1.trans hN (fun _ _ a => a)); clear hD hN)
          | (go_at_call 12; refine (DApp_is (M' := setM (setM (setM (fun _ => none) [102] (some ⟨la, 0, false⟩)) [102] (some ⟨la, la.length, true⟩)) [102] (some ⟨la ++ lb, la.length, true⟩)) G2.out HN.out (by omega) _ lb (HB.out.no G1.out.1) (fun k hk hl => role_old G1.out.2 k (HVB.out k hk hl)) (by have := HLB.out; omega) 0
              (by rw [appOf_more _ _ _ ⟨la, la.length, true⟩ rfl (setM_same _ [102] _) (by have := HLA.out; have := HLB.out; simp; omega)] <;> rfl) (by rw [appOf_more _ _ _ ⟨la, la.length, true⟩ rfl (setM_same _ [102] _) (by have := HLA.out; have := HLB.out; simp; omega)] <;> rfl)).mono ?_; rintro e w4 ⟨rfl, ρ2, hop, hdk⟩; have D1 := _root_.Go.Lib.hid (hop.fresh G1.out.1 G1.out.2); have D2 := _root_.Go.Lib.hid hdk; clear hop hdk)
          | (go_at_call 13; refine (DSync_some C2.out HN.out (by omega) ⟨la, 0, false⟩ (setM_same _ [102] _)).mono ?_; rintro e w8 ⟨rfl, h8, k8⟩; have G1 := _root_.Go.Lib.hid (h8.fresh C1.out.1 C1.out.2); have G2 := _root_.Go.Lib.hid k8; clear h8 k8)
          | (go_at_call 12; refine (DApp_is (M' := setM (fun _ => none) [102] (some ⟨la, 0, false⟩)) ⟨db, mb, nn, D0, rfl, B1.out⟩ HN.out (by omega) _ la (HA.out.no B2.out) (fun k hk hl => role_old B3.out k (HVA.out k hk hl)) (by have := HLA.out; omega) 0 (by rw [appOf_new _ _ _ rfl rfl (by have := HLA.out; omega)] <;> rfl) (by rw [appOf_new _ _ _ rfl rfl (by have := HLA.out; omega)] <;> rfl)).mono ?_; rintro e w3 ⟨rfl, ρ1, hop, hdk⟩; have C1 := _root_.Go.Lib.hid (hop.fresh B2.out B3.out); have C2 := _root_.Go.Lib.hid hdk; clear hop hdk)
          | (go_at_call 11; refine (DNew_any _).mono ?_; rintro e w2 ⟨dd, ρ0, rfl, hD, hN, hR⟩; obtain ⟨db, mb, nn, D0, hdd, hD⟩ := hD; subst hdd; have B1 := _root_.Go.Lib.hid hD; have B2 := _root_.Go.Lib.hid (A1.out.trans hN (fun _ _ a => a)); have B3 := _root_.Go.Lib.hid (fun k hk => Nat.le_trans A1.out.size (hR k hk)); clear hD hN hR)
          | (go_at_call 10; refine (begun_any _).mono ?_; rintro e w1 ⟨rfl, h1⟩; have A1 := _root_.Go.Lib.hid h1; clear h1))
        have hx : ∀ kk, (convert 22 9 (.slice aa la.length ca)).run Try.prog (w7.drewN kk) = .ok (.string ⟨la.toArray⟩) (w7.drewN kk) := fun kk => textA Try.underlying22 Try.underlying5 Try.underlying9 ((HA.out.no F1.out).no ((Fr.refl _ _).drewN kk))
        have hy : ∀ kk, (convert 22 9 (.slice ab r cb)).run Try.prog (w7.drewN kk) = .ok (.string ⟨(lb.take r).toArray⟩) (w7.drewN kk) := fun kk => textA Try.underlying22 Try.underlying5 Try.underlying9 (((HB.out.take r HRL.out).no F1.out).no ((Fr.refl _ _).drewN kk))
        have hz : ∀ kk, (convert 22 9 v7).run Try.prog (w7.drewN kk) = .ok (.string ⟨(la ++ lb.take r).toArray⟩) (w7.drewN kk) := fun kk => text_of Try.underlying22 Try.underlying5 Try.underlying9 (F2.out.rb.no ((Fr.refl _ _).drewN kk))
        have HF : Hid (∀ kk, No w (w7.drewN kk)) := fun kk => F1.out.trans ((Fr.refl _ _).drewN kk) (fun _ _ a => a)
        go_quiet (fail)
        go_wp2
        go_ret
        exact ⟨rfl, HF.out _⟩
end Go.Proofs.Ytgbfbijjbkfglaa
