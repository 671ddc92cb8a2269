/-
  The walk of DiskFull.
-/
import Derived.Test.YtgbfbijjbkfglaaDiskP
namespace Go.Proofs.Ytgbfbijjbkfglaa
open Go.RowKit Go.Maps

/-- Whole numbers that came in. -/
def RI (w : World) (a : Option Addr) (len cap : Nat) (zs : List Int) : Prop := (a = none ∧ len = 0) ∨
  ∃ x, a = some x ∧ len ≤ cap ∧ cap ≤ maxLen ∧ ∀ i, i < len → w.cell? (x.add i) = some (.int .i64 (zs.getD i 0)) ∧ -9223372036854775808 ≤ zs.getD i 0 ∧ zs.getD i 0 ≤ 9223372036854775807
theorem RI.of_row {w : World} {a : Option Addr} {len cap : Nat} {zs : List Int}
    (h : (a = none ∧ len = 0 ∧ cap = 0 ∧ zs = []) ∨ ∃ x, a = some x ∧ len ≤ cap ∧ cap ≤ maxLen ∧ zs.length = cap ∧ (∀ i, i < zs.length → w.cell? (x.add i) = some (.int .i64 (zs.getD i 0))) ∧ ∀ n ∈ zs, (Lit.int .i64 n).wf = true) : RI w a len cap zs := by
  rcases h with ⟨h1, h2, _⟩ | ⟨x, h1, h2, h3, h4, h5, h6⟩
  · exact .inl ⟨h1, h2⟩
  · refine .inr ⟨x, h1, h2, h3, fun i hi => ⟨h5 i (by omega), wf64 (h6 _ ?_)⟩⟩
    rw [List.getD_eq_getElem?_getD, List.getElem?_eq_getElem (by omega)]; exact List.getElem_mem _
/-- The length that is asked for. -/
def kOf (z : Int) : Nat := (Int.tmod (Int.tmod z 300000 + 300000) 300000).toNat
theorem kOf_spec (z : Int) : Int.tmod (Int.tmod z 300000 + 300000) 300000 = (kOf z : Int) ∧ kOf z < 300000 ∧ -300000 < Int.tmod z 300000 ∧ Int.tmod z 300000 < 300000 := by
  have h1 : -300000 < Int.tmod z 300000 ∧ Int.tmod z 300000 < 300000 := by
    have := Int.tmod_lt_of_pos z (show (0 : Int) < 300000 by omega)
    have := Int.lt_tmod_of_pos z (show (0 : Int) < 300000 by omega)
    omega
  have h2 : 0 ≤ Int.tmod (Int.tmod z 300000 + 300000) 300000 := Int.tmod_nonneg _ (by omega)
  have h3 : Int.tmod (Int.tmod z 300000 + 300000) 300000 < 300000 := Int.tmod_lt_of_pos _ (by omega)
  unfold kOf
  omega

theorem swapOf_big (M : List UInt8 → Option Fl) : swapOf M (ByteArray.mk #[102]).data.toList (nought 1048577) = (5, M) := by
  have hg : good (ByteArray.mk #[102]).data.toList = true := rfl
  simp only [swapOf, hg, nought_len]
  rfl
theorem noRole {w w7 : World} {ρ : Nat → Role} {d : Value} {M : List UInt8 → Option Fl} {c q n cap : Nat} (h : DK w ρ d M c q) (hf : No w w7) (k : Nat) (hk : (Value.slice (some ⟨w7.heap.size, 0, none⟩) n cap).ownBlock = some k) : ρ k = .no := by
  simp [Value.ownBlock] at hk
  subst hk
  cases hr : ρ w7.heap.size with
  | no => rfl
  | _ => have := h.lt w7.heap.size (by rw [hr]; simp); have := hf.size; omega

set_option maxRecDepth 100000 in
set_option maxHeartbeats 4000000 in
theorem DiskFull_walk (a : Option Addr) (len cap : Nat) (zs : List Int) (w : World) (h : RI w a len cap zs) :
    Calls Try.prog 5 #[.slice a len cap] w fun e w' => e = .returned (.bool true) ∧ No w w' := by
  have hn1 : (ByteArray.mk #[102]).size ≤ maxLen := by decide
  have HN := _root_.Go.Lib.hid hn1
  have HI := _root_.Go.Lib.hid h
  have hmk : ∀ w : World, (Instr.makeSlice 22 (.int .i64 300000) (.int .i64 300000)).run Try.prog w = .ok (.slice (some ⟨w.heap.size, 0, none⟩) 300000 300000) (mkW w 300000) := fun w => run_mkW w 300000 (by omega)
  have hmk2 : ∀ w : World, (Instr.makeSlice 22 (.int .i64 1048577) (.int .i64 1048577)).run Try.prog w = .ok (.slice (some ⟨w.heap.size, 0, none⟩) 1048577 1048577) (mkW w 1048577) := fun w => run_mkW w 1048577 (by omega)
  clear hn1 h
  go_enter Try.func5, Try.ntmps5
  go_wp2_with (first
    | (go_at_call 11; refine (DNew_any _).mono ?_; rintro e w3 ⟨dd, ρ0, rfl, hD, hN, hR⟩; obtain ⟨db, mb, nn, D0, hdd, hD⟩ := hD; subst hdd; have B1 := _root_.Go.Lib.hid hD; have B2 := _root_.Go.Lib.hid (A1.out.trans hN (fun _ _ a => a)); have B3 := _root_.Go.Lib.hid (fun k hk => Nat.le_trans A1.out.size (hR k hk)); clear hD hN hR)
    | (go_at_call 10; refine (begun_any _).mono ?_; rintro e w1 ⟨rfl, h1⟩; have A1 := _root_.Go.Lib.hid h1; clear h1))
  have HG := _root_.Go.Lib.hid (mkW_rb w3 300000 (by omega))
  have HG2 := _root_.Go.Lib.hid (mkW_no w3 300000)
  have HG3 : Hid (w3.heap.size < (mkW w3 300000).heap.size) := by show _ < _; simp [mkW]
  generalize hgg : w3.heap.size = gg at *
  have HGG := _root_.Go.Lib.hid hgg
  generalize mkW w3 300000 = w4 at *
  clear hgg
  have hsh : (a = none ∧ len = 0) ∨ ∃ x, a = some x := by rcases HI.out with h | ⟨x, h, _⟩; exact .inl h; exact .inr ⟨x, h⟩
  go_loopw [5, 7] (fun x y wr => ∃ (i m : Nat) (M : List UInt8 → Option Fl) (ρ : Nat → Role), i ≤ 12 ∧ i ≤ len ∧ m ≤ 1048576 ∧ x = .int .i64 m ∧ y = .int .i64 i ∧ No w wr ∧ w4.heap.size ≤ wr.heap.size ∧ wr.heap[gg]? = w4.heap[gg]? ∧
      DK wr ρ (.pointer (some ⟨db, 0, none⟩)) M i 0 ∧ (∀ k, ρ k ≠ .no → w.heap.size ≤ k ∧ k ≠ gg) ∧ (i = 0 ∧ m = 0 ∧ M [102] = none ∨ 0 < i ∧ M [102] = some ⟨nought m, 0, false⟩)) (fun _ y _ => 12 - (intOf y).toNat)
  case atStart => exact ⟨0, 0, fun _ => none, ρ0, by omega, by omega, by omega, rfl, rfl, B2.out.trans HG2.out (fun _ _ a => a), Nat.le_refl _, rfl, DK.no ⟨db, mb, nn, D0, rfl, B1.out⟩ HG2.out, fun k hk => ⟨B3.out k hk, by have := B1.out.lt k hk; have := HGG.out; omega⟩, .inl ⟨rfl, rfl, rfl⟩⟩
  case round =>
    obtain ⟨i, m, M, ρ, hi1, hi2, hm, rfl, rfl, hno, hsz, hgk, hdk, hro, hst⟩ := hrel
    have Z1 := _root_.Go.Lib.hid hno
    have Z2 := _root_.Go.Lib.hid hsz
    have Z3 := _root_.Go.Lib.hid hgk
    have Z4 := _root_.Go.Lib.hid hdk
    have Z5 := _root_.Go.Lib.hid hro
    have Z6 := _root_.Go.Lib.hid hst
    clear hno hsz hgk hdk hro hst
    have hmm : (m : Int) ≤ 1048576 := by omega
    have hii : (i : Int) ≤ 12 := by omega
    by_cases h1 : (i : Int) < len
    · by_cases h2 : (i : Int) < 12
      · have hin : i < len := by omega
        have hz0 : ∃ x, a = some x ∧ wr.cell? (x.add i) = some (.int .i64 (zs.getD i 0)) := by
          rcases HI.out with ⟨_, h0⟩ | ⟨x, hx, _, _, hc⟩
          · omega
          · have hcc := (hc i hin).1
            exact ⟨x, hx, (Z1.out.cell (World.block_lt_of_cell? _ _ hcc) id).trans hcc⟩
        obtain ⟨x, rfl, hcell⟩ := hz0
        obtain ⟨k1, k2, k3, k4⟩ := kOf_spec (zs.getD i 0)
        generalize zs.getD i 0 = z at *
        generalize kOf z = k at *
        have k1' : (z.tmod 300000 + 300000) % 300000 = (k : Int) := by
          have hpos : 0 ≤ z.tmod 300000 + 300000 := by clear k1; generalize z.tmod 300000 = t at *; omega
          rw [← k1, Int.tmod_eq_emod_of_nonneg hpos]
        have hk5 : (k : Int) ≤ 300000 := by omega
        have hk6 : (0 : Int) ≤ k := by omega
        have HBG : Hid (RA wr (.slice (some ⟨gg, 0, none⟩) k 300000) (nought k)) := by
          have h0 : RB wr (.slice (some ⟨gg, 0, none⟩) 300000 300000) (nought 300000) := Rd.keep HG.out (fun j e => by simp [Value.ownBlock] at e; rw [← e]; exact Z3.out)
          have h1 := (RB.ra h0).take k (by rw [nought_len]; omega)
          rwa [nought_take 300000 k (by omega)] at h1
        have hvo : ∀ j, (Value.slice (some ⟨gg, 0, none⟩) k 300000).ownBlock = some j → nought k ≠ [] → ρ j = .no := fun j hj _ => by
          simp [Value.ownBlock] at hj
          subst hj
          cases hr : ρ gg with
          | no => rfl
          | _ => exact absurd rfl (Z5.out gg (by rw [hr]; simp)).2
        have HVO := _root_.Go.Lib.hid hvo
        clear hvo
        by_cases hb : m + k ≤ 1048576
        · have hb' : (k : Int) ≤ 1048576 - m := by omega
          have HBB := _root_.Go.Lib.hid hb
          have hA : appOf M [102] (nought k) = (0, setM M [102] (some ⟨nought (m + k), 0, false⟩)) := by
            rcases Z6.out with ⟨_, rfl, hM⟩ | ⟨_, hM⟩
            · rw [appOf_new M [102] _ rfl hM (by rw [nought_len]; omega), Nat.zero_add]
            · rw [appOf_more M [102] _ _ rfl hM (by simp only [nought_len]; omega), nought_add]
          have HA := _root_.Go.Lib.hid hA
          clear hA hb
          go_wp2_with (go_at_call 12; refine (DApp_is (M' := setM M [102] (some ⟨nought (m + k), 0, false⟩)) Z4.out HN.out (by omega) _ (nought k) HBG.out HVO.out (by rw [nought_len]; omega) 0 (by show (((appOf M [102] (nought k)).1 : Nat) : Int) = 0; rw [HA.out]; rfl) (by show (appOf M [102] (nought k)).2 = _; rw [HA.out])).mono ?_; rintro e w5 ⟨rfl, ρ1, hop, hdk⟩; have C1 := _root_.Go.Lib.hid hop; have C2 := _root_.Go.Lib.hid hdk; clear hop hdk)
          go_roundw
          case rel =>
            have hF := C1.out.fresh Z1.out (fun j hj => (Z5.out j hj).1)
            have hs1 := Z2.out
            have hs2 := C1.out.fr.size
            have hgw := HG3.out
            refine ⟨i + 1, m + k, setM M [102] (some ⟨nought (m + k), 0, false⟩), ρ1, by omega, by omega, HBB.out, by go_num, by go_num, hF.1, by omega, (C1.out.fr.block gg (by omega) (fun hn => (Z5.out gg hn).2 rfl)).trans Z3.out, C2.out, fun j hj => ⟨hF.2 j hj, ?_⟩, .inr ⟨by omega, setM_same _ _ _⟩⟩
            rcases C1.out.roles j hj with h | h
            · exact (Z5.out j h).2
            · omega
          case measure => simp [intOf]; omega
        · have hb' : (1048576 : Int) - m < k := by omega
          have hM : M [102] = some ⟨nought m, 0, false⟩ := by rcases Z6.out with ⟨_, h0, _⟩ | ⟨_, h⟩; omega; exact h
          have hi0 : 0 < i := by rcases Z6.out with ⟨_, h0, _⟩ | ⟨h, _⟩; omega; exact h
          have hA : appOf M [102] (nought k) = (5, M) := by
            rw [appOf, if_neg (by decide), hM]
            simp only [nought_len]
            rw [if_pos (by omega)]
          have HA := _root_.Go.Lib.hid hA
          have HM := _root_.Go.Lib.hid hM
          have HBB := _root_.Go.Lib.hid hb
          clear hA hb hM
          go_wp2_with (go_at_call 12; refine (DApp_is (M' := M) Z4.out HN.out (by omega) _ (nought k) HBG.out HVO.out (by rw [nought_len]; omega) 5 (by show (((appOf M [102] (nought k)).1 : Nat) : Int) = 5; rw [HA.out]; rfl) (by show (appOf M [102] (nought k)).2 = _; rw [HA.out])).mono ?_; rintro e w5 ⟨rfl, ρ1, hop, hdk⟩; have C1 := _root_.Go.Lib.hid hop; have C2 := _root_.Go.Lib.hid hdk; clear hop hdk)
          go_roundw
          case rel =>
            have hF := C1.out.fresh Z1.out (fun j hj => (Z5.out j hj).1)
            have hs1 := Z2.out
            have hs2 := C1.out.fr.size
            have hgw := HG3.out
            refine ⟨i + 1, m, M, ρ1, by omega, by omega, by omega, rfl, by go_num, hF.1, by omega, (C1.out.fr.block gg (by omega) (fun hn => (Z5.out gg hn).2 rfl)).trans Z3.out, C2.out, fun j hj => ⟨hF.2 j hj, ?_⟩, .inr ⟨by omega, HM.out⟩⟩
            rcases C1.out.roles j hj with h | h
            · exact (Z5.out j h).2
            · omega
          case measure => simp [intOf]; omega
      · have hM : M [102] = some ⟨nought m, 0, false⟩ := by rcases Z6.out with ⟨h0, _⟩ | ⟨_, h⟩; omega; exact h
        have HM := _root_.Go.Lib.hid hM
        clear hM
        go_wp2_with (first
          | (go_at_call 25; refine (DLoose_is F2.out HN.out m (by show ((looseOf (M [102]) : Nat) : Int) = m; rw [HM.out]; simp [looseOf, nought_len])).mono ?_; rintro e w9 ⟨rfl, h9⟩; have L1 := _root_.Go.Lib.hid (F1.out.1.trans h9 (fun _ _ a => a)); clear h9)
          | (go_at_call 20; go_loud (refine (DSwap_is (M' := M) ((Z4.out.no R1.out).no (mkW_no _ _)) HN.out (by omega) _ (nought 1048577) (mkW_rb _ 1048577 (by omega)).ra (fun k hk hl => noRole Z4.out R1.out k hk) (by rw [nought_len]; omega) 5 (by rw [swapOf_big M] <;> rfl) (by rw [swapOf_big M] <;> rfl)).mono ?_); rintro e w8 ⟨rfl, ρ2, hop, hdk⟩; have F1 := _root_.Go.Lib.hid (hop.fresh ((Z1.out.trans R1.out (fun _ _ a => a)).trans (mkW_no _ _) (fun _ _ a => a)) (fun k hk => (Z5.out k hk).1)); have F2 := _root_.Go.Lib.hid hdk; clear hop hdk)
          | (go_at_call 15; refine (DRead_some Z4.out HN.out ⟨nought m, 0, false⟩ HM.out).mono ?_; rintro e w7 ⟨v7, rfl, h7, k7, _, _⟩; obtain ⟨a7, c7, hv7⟩ := k7.rb.ra.form; rw [nought_len] at hv7; subst hv7; have R1 := _root_.Go.Lib.hid h7; clear h7 k7))
        go_ret
        exact ⟨rfl, L1.out⟩
    · obtain rfl : i = len := by omega
      by_cases h3 : i = 0
      · subst h3
        go_wp2
        go_ret
        exact ⟨rfl, Z1.out⟩
      · have h3' : ¬ (i : Int) = 0 := by omega
        clear h3
        have hM : M [102] = some ⟨nought m, 0, false⟩ := by rcases Z6.out with ⟨h0, _⟩ | ⟨_, h⟩; omega; exact h
        have HM := _root_.Go.Lib.hid hM
        clear hM
        go_wp2_with (first
          | (go_at_call 25; refine (DLoose_is F2.out HN.out m (by show ((looseOf (M [102]) : Nat) : Int) = m; rw [HM.out]; simp [looseOf, nought_len])).mono ?_; rintro e w9 ⟨rfl, h9⟩; have L1 := _root_.Go.Lib.hid (F1.out.1.trans h9 (fun _ _ a => a)); clear h9)
          | (go_at_call 20; go_loud (refine (DSwap_is (M' := M) ((Z4.out.no R1.out).no (mkW_no _ _)) HN.out (by omega) _ (nought 1048577) (mkW_rb _ 1048577 (by omega)).ra (fun k hk hl => noRole Z4.out R1.out k hk) (by rw [nought_len]; omega) 5 (by rw [swapOf_big M] <;> rfl) (by rw [swapOf_big M] <;> rfl)).mono ?_); rintro e w8 ⟨rfl, ρ2, hop, hdk⟩; have F1 := _root_.Go.Lib.hid (hop.fresh ((Z1.out.trans R1.out (fun _ _ a => a)).trans (mkW_no _ _) (fun _ _ a => a)) (fun k hk => (Z5.out k hk).1)); have F2 := _root_.Go.Lib.hid hdk; clear hop hdk)
          | (go_at_call 15; refine (DRead_some Z4.out HN.out ⟨nought m, 0, false⟩ HM.out).mono ?_; rintro e w7 ⟨v7, rfl, h7, k7, _, _⟩; obtain ⟨a7, c7, hv7⟩ := k7.rb.ra.form; rw [nought_len] at hv7; subst hv7; have R1 := _root_.Go.Lib.hid h7; clear h7 k7))
        go_ret
        exact ⟨rfl, L1.out⟩
end Go.Proofs.Ytgbfbijjbkfglaa
