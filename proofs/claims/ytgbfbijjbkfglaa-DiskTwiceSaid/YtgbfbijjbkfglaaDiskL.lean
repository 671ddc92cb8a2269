/-
  The walk of DiskSwap.
-/
import Derived.Test.YtgbfbijjbkfglaaDiskK
namespace Go.Proofs.Ytgbfbijjbkfglaa
open Go.RowKit Go.Maps

theorem RA.form {w : World} {v : Value} {l : List UInt8} (h : RA w v l) : ∃ a cap, v = .slice a l.length cap := by
  rcases h with ⟨rfl, rfl⟩ | ⟨a, cap, rfl, _⟩
  · exact ⟨none, 0, rfl⟩
  · exact ⟨some a, cap, rfl⟩
theorem appOf_new (M : List UInt8 → Option Fl) (nm l : List UInt8) (hg : good nm = true) (hM : M nm = none) (hl : l.length ≤ 1048576) : appOf M nm l = (0, setM M nm (some ⟨l, 0, false⟩)) := by
  simp [appOf, hg, hM, Nat.not_lt.2 hl]
theorem appOf_more (M : List UInt8 → Option Fl) (nm l : List UInt8) (f : Fl) (hg : good nm = true) (hM : M nm = some f) (hl : f.b.length + l.length ≤ 1048576) : appOf M nm l = (0, setM M nm (some { f with b := f.b ++ l })) := by
  simp [appOf, hg, hM, Nat.not_lt.2 hl]
theorem swapOf_ok (M : List UInt8 → Option Fl) (nm l : List UInt8) (hg : good nm = true) (hl : l.length ≤ 1048576) : swapOf M nm l = (0, setM M nm (some ⟨l, l.length, true⟩)) := by
  simp [swapOf, hg, Nat.not_lt.2 hl]
theorem setM_same (M : List UInt8 → Option Fl) (nm : List UInt8) (o : Option Fl) : setM M nm o nm = o := by simp [setM]
theorem crash_lasting (n : Int) (l : List UInt8) : crashF n ⟨l, l.length, true⟩ = some ⟨l, l.length, true⟩ := by
  have hk : keepOf n ⟨l, l.length, true⟩ = l.length := by
    unfold keepOf
    simp [Nat.mod_one]
  simp [crashF, hk]

theorem crashM_lasting (n : Int) (M : List UInt8 → Option Fl) (nm l : List UInt8) : crashM n (setM M nm (some ⟨l, l.length, true⟩)) nm = some ⟨l, l.length, true⟩ := by
  simp [crashM, setM_same, crash_lasting]
theorem RA.old {w : World} {v : Value} {l : List UInt8} (h : RA w v l) : ∀ k, v.ownBlock = some k → l ≠ [] → k < w.heap.size := by
  intro k hk hl
  rcases h with ⟨rfl, rfl⟩ | ⟨a, cap, rfl, h1, h2, h3⟩
  · exact absurd rfl hl
  · simp [Value.ownBlock] at hk
    subst hk
    have hb : (a.add 0).block = a.block := by unfold Addr.add; split <;> rfl
    have := World.block_lt_of_cell? _ _ (h3 0 (List.length_pos_iff.2 hl))
    rw [hb] at this
    exact this
theorem wf64 {n : Int} (h : (Lit.int .i64 n).wf = true) : -9223372036854775808 ≤ n ∧ n ≤ 9223372036854775807 := by
  simp only [Lit.wf, Bool.and_eq_true, decide_eq_true_eq] at h
  have e1 : IntKind.i64.min = -9223372036854775808 := rfl
  have e2 : IntKind.i64.max = 9223372036854775807 := rfl
  omega
theorem No.ends {w w' : World} (h : No w w') : Below w.heap.size w w' := h.below w.heap.size (Nat.le_refl _) fun _ a => a.elim
theorem role_old {w : World} {ρ : Nat → Role} (hf : ∀ k, ρ k ≠ .no → w.heap.size ≤ k) (k : Nat) (hk : k < w.heap.size) : ρ k = .no := by
  cases hr : ρ k with
  | no => rfl
  | _ => have := hf k (by rw [hr]; simp); omega
/-- Bytes that came in as numbers. -/
theorem RA.of_row {w : World} {a : Option Addr} {len cap : Nat} {zs : List Int}
    (h : (a = none ∧ len = 0 ∧ cap = 0 ∧ zs = []) ∨ ∃ x, a = some x ∧ len ≤ cap ∧ cap ≤ maxLen ∧ zs.length = cap ∧ (∀ i, i < zs.length → w.cell? (x.add i) = some (.int .u8 (zs.getD i 0))) ∧ ∀ n ∈ zs, (Lit.int .u8 n).wf = true) :
    ∃ l : List UInt8, RA w (.slice a len cap) l := by
  rcases h with ⟨rfl, rfl, rfl, rfl⟩ | ⟨x, rfl, h1, h2, h3, h4, h5⟩
  · exact ⟨[], .inl ⟨rfl, rfl⟩⟩
  · have hlen : ((zs.take len).map fun z => UInt8.ofNat z.toNat).length = len := by simp; omega
    refine ⟨(zs.take len).map fun z => UInt8.ofNat z.toNat, .inr ⟨x, cap, by rw [hlen], by rw [hlen]; exact h1, h2, fun j hj => ?_⟩⟩
    rw [hlen] at hj
    rw [h4 j (by omega)]
    have hm : zs.getD j 0 ∈ zs := by rw [List.getD_eq_getElem?_getD, List.getElem?_eq_getElem (by omega)]; exact List.getElem_mem _
    have hw := h5 _ hm
    have hg : ((zs.take len).map fun z => UInt8.ofNat z.toNat).getD j 0 = UInt8.ofNat (zs.getD j 0).toNat := by
      rw [List.getD_eq_getElem?_getD, List.getElem?_map, List.getElem?_take, if_pos hj, List.getD_eq_getElem?_getD, List.getElem?_eq_getElem (by omega)]; rfl
    rw [hg]
    have hb : 0 ≤ zs.getD j 0 ∧ zs.getD j 0 ≤ 255 := by
      generalize zs.getD j 0 = z at hw
      simp only [Lit.wf, Bool.and_eq_true, decide_eq_true_eq] at hw
      have e1 : IntKind.u8.min = 0 := rfl
      have e2 : IntKind.u8.max = 255 := rfl
      omega
    congr 2
    simp only [by8, UInt8.toNat_ofNat']
    omega

set_option maxRecDepth 100000 in
set_option maxHeartbeats 2000000 in
theorem DiskSwap_walk (va vb : Value) (la lb : List UInt8) (n : Int) (w : World) (ha : RA w va la) (hb : RA w vb lb) (hva : ∀ k, va.ownBlock = some k → la ≠ [] → k < w.heap.size) (hvb : ∀ k, vb.ownBlock = some k → lb ≠ [] → k < w.heap.size) (hn0 : -9223372036854775808 ≤ n) (hn1 : n ≤ 9223372036854775807) :
    Calls Try.prog 8 #[va, vb, .int .i64 n] w fun e w' => e = .returned (.bool true) ∧ No w w' := by
  have hnm : (ByteArray.mk #[102]).size ≤ maxLen := by decide
  have HN := _root_.Go.Lib.hid hnm
  have HA := _root_.Go.Lib.hid ha
  have HB := _root_.Go.Lib.hid hb
  have HVA := _root_.Go.Lib.hid hva
  have HVB := _root_.Go.Lib.hid hvb
  have HI : Hid (-9223372036854775808 ≤ n ∧ n ≤ 9223372036854775807) := ⟨hn0, hn1⟩
  obtain ⟨aa, ca, rfl⟩ := ha.form
  obtain ⟨ab, cb, rfl⟩ := hb.form
  clear hnm ha hb hva hvb hn0 hn1
  by_cases h1 : (60 : Int) < la.length
  · go_enter Try.func8, Try.ntmps8
    go_wp2_with (go_at_call 10; refine (begun_any _).mono ?_; rintro e w1 ⟨rfl, h1⟩; have A1 := _root_.Go.Lib.hid h1; clear h1)
    go_ret
    exact ⟨rfl, A1.out⟩
  · by_cases h2 : (60 : Int) < lb.length
    · have h1' : (la.length : Int) ≤ 60 := by omega
      clear h1
      go_enter Try.func8, Try.ntmps8
      go_wp2_with (go_at_call 10; refine (begun_any _).mono ?_; rintro e w1 ⟨rfl, h1⟩; have A1 := _root_.Go.Lib.hid h1; clear h1)
      go_ret
      exact ⟨rfl, A1.out⟩
    · have h1' : (la.length : Int) ≤ 60 := by omega
      have h2' : (lb.length : Int) ≤ 60 := by omega
      have HLA : Hid (la.length ≤ 60) := by show _ ≤ _; omega
      have HLB : Hid (lb.length ≤ 60) := by show _ ≤ _; omega
      clear h1 h2
      go_enter Try.func8, Try.ntmps8
      go_wp2_with (first
        | (go_at_call 15; go_loud (refine (DRead_some E1.out HN.out ⟨lb, lb.length, true⟩ (crashM_lasting n _ [102] lb)).mono ?_; rintro e w7 ⟨v7, rfl, h7, k7, _⟩; have F1 := _root_.Go.Lib.hid (E2.out.trans h7 (fun _ _ a => a)); have hx := text_of Try.underlying22 Try.underlying5 Try.underlying9 k7.rb; have hy := textA Try.underlying22 Try.underlying5 Try.underlying9 (HB.out.no (E2.out.trans h7 (fun _ _ a => a))); clear h7 k7))
        | (go_at_call 14; refine (DCrash_any _ ρ2 _ 2 0 n _ (D2.out.no D3.out) (by omega) HI.out.1 HI.out.2).mono ?_; rintro e w6 ⟨dc, ρc, qc, rfl, hD, hN, _, _⟩; have E1 := _root_.Go.Lib.hid hD; have E2 := _root_.Go.Lib.hid (D1.out.1.trans (D3.out.trans hN (fun _ _ a => a)) (fun _ _ a => a)); clear hD hN)
        | (go_at_call 25; refine (DLoose_is D2.out HN.out 0 (by rw [show (ByteArray.mk #[102]).data.toList = [102] from rfl, setM_same]; simp [looseOf])).mono ?_; rintro e w5 ⟨rfl, h5⟩; have D3 := _root_.Go.Lib.hid h5; clear h5)
        | (go_at_call 20; refine (DSwap_is (M' := setM (setM (fun _ => none) [102] (some ⟨la, 0, false⟩)) [102] (some ⟨lb, lb.length, true⟩)) C2.out HN.out (by omega) _ lb (HB.out.no C1.out.1) (fun k hk hl => role_old C1.out.2 k (HVB.out k hk hl)) (by have := HLB.out; omega) 0 (by rw [swapOf_ok _ _ _ rfl (by have := HLB.out; omega)] <;> rfl) (by rw [swapOf_ok _ _ _ rfl (by have := HLB.out; omega)] <;> rfl)).mono ?_; rintro e w4 ⟨rfl, ρ2, hop, hdk⟩; have D1 := _root_.Go.Lib.hid (hop.fresh C1.out.1 C1.out.2); have D2 := _root_.Go.Lib.hid hdk; clear hop hdk)
        | (go_at_call 12; go_loud (refine (DApp_is (M' := setM (fun _ => none) [102] (some ⟨la, 0, false⟩)) ⟨db, mb, nn, D0, rfl, B1.out⟩ HN.out (by omega) _ la (HA.out.no B2.out) (fun k hk hl => role_old B3.out k (HVA.out k hk hl)) (by have := HLA.out; omega) 0 (by rw [appOf_new _ _ _ rfl rfl (by have := HLA.out; omega)] <;> rfl) (by rw [appOf_new _ _ _ rfl rfl (by have := HLA.out; omega)] <;> rfl)).mono ?_; rintro e w3 ⟨rfl, ρ1, hop, hdk⟩; have C1 := _root_.Go.Lib.hid (hop.fresh B2.out B3.out); have C2 := _root_.Go.Lib.hid hdk; clear hop hdk))
        | (go_at_call 11; refine (DNew_any _).mono ?_; rintro e w2 ⟨dd, ρ0, rfl, hD, hN, hR⟩; obtain ⟨db, mb, nn, D0, hdd, hD⟩ := hD; subst hdd; have B1 := _root_.Go.Lib.hid hD; have B2 := _root_.Go.Lib.hid (A1.out.trans hN (fun _ _ a => a)); have B3 := _root_.Go.Lib.hid (fun k hk => Nat.le_trans A1.out.size (hR k hk)); clear hD hN hR)
        | (go_at_call 10; refine (begun_any _).mono ?_; rintro e w1 ⟨rfl, h1⟩; have A1 := _root_.Go.Lib.hid h1; clear h1))
      go_ret
      exact ⟨rfl, F1.out⟩
end Go.Proofs.Ytgbfbijjbkfglaa
