/-
  The walk of DiskTwice.
-/
import Derived.Test.YtgbfbijjbkfglaaDiskR
namespace Go.Proofs.Ytgbfbijjbkfglaa
open Go.RowKit Go.Maps

theorem old_role {w : World} {ρ : Nat → Role} {va : Option Addr} {n vc : Nat} {l : List UInt8} (h : RA w (.slice va n vc) l) (hf : ∀ k, ρ k ≠ .no → w.heap.size ≤ k) :
    ∀ k, (Value.slice va n vc).ownBlock = some k → l ≠ [] → ρ k = .no := fun k hk hl => role_old hf k (h.old k hk hl)
theorem RA.room {w : World} {va : Option Addr} {n vc : Nat} {l : List UInt8} (h : RA w (.slice va n vc) l) : l.length = n ∧ n ≤ vc ∧ vc ≤ maxLen := by
  rcases h with ⟨h, rfl⟩ | ⟨a, cap, h, h1, h2, _⟩
  · cases h; exact ⟨rfl, Nat.le_refl _, Nat.zero_le _⟩
  · cases h; exact ⟨rfl, h1, h2⟩

/-- The rounds: d a disk in wr, all of its blocks newer than w. -/
structure Run (w wr : World) (db : Nat) (M : List UInt8 → Option Fl) (ρ : Nat → Role) (c : Nat) : Prop where
  no : No w wr
  dk : DK wr ρ (.pointer (some ⟨db, 0, none⟩)) M c 0
  new : ∀ k, ρ k ≠ .no → w.heap.size ≤ k
theorem Run.step {w wr w2 w3 : World} {db c c' : Nat} {M M' : List UInt8 → Option Fl} {ρ ρ' : Nat → Role} (h : Run w wr db M ρ c) (h2 : No wr w2) (hop : Op' w2 ρ w3 ρ') (hdk : DK w3 ρ' (.pointer (some ⟨db, 0, none⟩)) M' c' 0) : Run w w3 db M' ρ' c' :=
  ⟨(hop.fresh (h.no.trans h2 (fun _ _ a => a)) h.new).1, hdk, (hop.fresh (h.no.trans h2 (fun _ _ a => a)) h.new).2⟩
theorem Run.still {w wr w2 : World} {db c : Nat} {M : List UInt8 → Option Fl} {ρ : Nat → Role} (h : Run w wr db M ρ c) (h2 : No wr w2) : Run w w2 db M ρ c := h.step h2 (Op'.refl _ _) (h.dk.no h2)

set_option maxRecDepth 100000 in
set_option maxHeartbeats 4000000 in
theorem DiskTwice_walk (a : Option Addr) (len cap : Nat) (n m : Int) (w : World) (h : RO w a len) (hn0 : -9223372036854775808 ≤ n) (hn1 : n ≤ 9223372036854775807) (hm0 : -9223372036854775808 ≤ m) (hm1 : m ≤ 9223372036854775807) :
    Calls Try.prog 9 #[.slice a len cap, .int .i64 n, .int .i64 m] w fun e w' => e = .returned (.bool true) ∧ No w w' := by
  have HO := _root_.Go.Lib.hid h
  have HB := _root_.Go.Lib.hid (show (-9223372036854775808 ≤ n ∧ n ≤ 9223372036854775807) ∧ (-9223372036854775808 ≤ m ∧ m ≤ 9223372036854775807) from ⟨⟨hn0, hn1⟩, hm0, hm1⟩)
  clear h hn0 hn1 hm0 hm1
  go_enter Try.func9, Try.ntmps9
  go_wp2_with (first
    | (go_at_call 11; refine (DNew_any _).mono ?_; rintro e w2 ⟨dd, ρ0, rfl, hD, hN, hR⟩; obtain ⟨db, mb, nn, D0, hdd, hD⟩ := hD; subst hdd; have B1 := _root_.Go.Lib.hid (Run.mk (A1.out.trans hN (fun _ _ a => a)) ⟨db, mb, nn, D0, rfl, hD⟩ (fun k hk => Nat.le_trans A1.out.size (hR k hk))); clear hD hN hR)
    | (go_at_call 10; refine (begun_any _).mono ?_; rintro e w1 ⟨rfl, h1⟩; have A1 := _root_.Go.Lib.hid h1; clear h1))
  have hsh : (a = none ∧ len = 0) ∨ ∃ x, a = some x := by rcases HO.out with h | ⟨x, h, _⟩; exact .inl h; exact .inr ⟨x, h⟩
  go_loopw [9] (fun y wr => ∃ (i c : Nat) (M : List UInt8 → Option Fl) (ρ : Nat → Role), i ≤ 30 ∧ c ≤ i ∧ i ≤ len ∧ y = .int .i64 i ∧ Run w wr db M ρ c) (fun y _ => 30 - (intOf y).toNat)
  case atStart => exact ⟨0, 0, fun _ => none, ρ0, by omega, by omega, by omega, rfl, B1.out⟩
  case round =>
    obtain ⟨i, c, M, ρ, hi1, hi2, hi3, rfl, hrun⟩ := hrel
    have Z1 := _root_.Go.Lib.hid hrun
    clear hrun
    have hii : (i : Int) ≤ 30 := by omega
    by_cases h1 : (i : Int) < len
    · by_cases h2 : (i : Int) < 30
      · have hin : i < len := by omega
        rcases HO.out with ⟨_, h0⟩ | ⟨x, rfl, hops⟩
        · omega
        obtain ⟨kind, nn', name, vb, l, hop⟩ := hops i hin
        obtain ⟨va, vc, hvb⟩ := hop.rb.form
        subst hvb
        have HRA := _root_.Go.Lib.hid hop.rb
        have HNM := _root_.Go.Lib.hid hop.nm
        have hp := hop.no Z1.out.no
        have c0 := hp.c0
        have c1 := hp.c1
        have c2 := hp.c2
        have c3 := hp.c3
        have HKB := _root_.Go.Lib.hid hp.kb
        have hroom := hop.rb.room
        obtain ⟨_, hcap, hcm⟩ := hroom
        unfold maxLen at hcm
        clear hops hop hp
        obtain ⟨ll, hll⟩ : ∃ ll, l.length = ll := ⟨_, rfl⟩
        rw [hll] at HRA c3 hcap
        have HLL := _root_.Go.Lib.hid hll
        clear hll
        by_cases h60 : (60 : Int) < ll
        · have HR2 := _root_.Go.Lib.hid (HRA.out.take 60 (by have := HLL.out; omega))
          have h60c : (60 : Int) ≤ vc := by omega
          by_cases k0 : kind = 0
          · subst k0
            go_wp2_with (go_at_call 12; refine (DApp_any _ ρ M c 0 name _ _ _ (Z1.out.dk.no (((Fr.refl _ _).alloc _))) HNM.out (by omega) (HR2.out.no (Z1.out.no.trans (((Fr.refl _ _).alloc _)) (fun _ _ a => a))) (old_role HR2.out Z1.out.new) (by have := HR2.out.room; omega)).mono ?_; rintro e w5 ⟨ρ1, rfl, hop, hdk⟩; have C1 := _root_.Go.Lib.hid (Z1.out.step (((Fr.refl _ _).alloc _)) hop hdk); clear hop hdk)
            go_roundw
            case rel => exact ⟨i + 1, c + 1, _, ρ1, by omega, by omega, by omega, by go_num, C1.out⟩
            case measure => simp [intOf]; omega
          · by_cases k1 : kind = 1
            · subst k1
              go_wp2_with (go_at_call 13; refine (DSync_any _ ρ M c 0 name _ (Z1.out.dk.no (((Fr.refl _ _).alloc _))) HNM.out (by omega)).mono ?_; rintro e w5 ⟨rfl, hop, hdk⟩; have C1 := _root_.Go.Lib.hid (Z1.out.step (((Fr.refl _ _).alloc _)) hop hdk); clear hop hdk)
              go_roundw
              case rel => exact ⟨i + 1, c + 1, _, ρ, by omega, by omega, by omega, by go_num, C1.out⟩
              case measure => simp [intOf]; omega
            · by_cases k2 : kind = 2
              · subst k2
                go_wp2_with (go_at_call 20; refine (DSwap_any _ ρ M c 0 name _ _ _ (Z1.out.dk.no (((Fr.refl _ _).alloc _))) HNM.out (by omega) (HR2.out.no (Z1.out.no.trans (((Fr.refl _ _).alloc _)) (fun _ _ a => a))) (old_role HR2.out Z1.out.new) (by have := HR2.out.room; omega)).mono ?_; rintro e w5 ⟨ρ1, rfl, hop, hdk⟩; have C1 := _root_.Go.Lib.hid (Z1.out.step (((Fr.refl _ _).alloc _)) hop hdk); clear hop hdk)
                go_roundw
                case rel => exact ⟨i + 1, c + 1, _, ρ1, by omega, by omega, by omega, by go_num, C1.out⟩
                case measure => simp [intOf]; omega
              · go_wp2
                go_roundw
                case rel => exact ⟨i + 1, c, M, ρ, by omega, by omega, by omega, by go_num, Z1.out.still (((Fr.refl _ _).alloc _))⟩
                case measure => simp [intOf]; omega
        · have HR2 := HRA
          by_cases k0 : kind = 0
          · subst k0
            go_wp2_with (go_at_call 12; refine (DApp_any _ ρ M c 0 name _ _ _ (Z1.out.dk.no (((Fr.refl _ _).alloc _))) HNM.out (by omega) (HR2.out.no (Z1.out.no.trans (((Fr.refl _ _).alloc _)) (fun _ _ a => a))) (old_role HR2.out Z1.out.new) (by have := HR2.out.room; omega)).mono ?_; rintro e w5 ⟨ρ1, rfl, hop, hdk⟩; have C1 := _root_.Go.Lib.hid (Z1.out.step (((Fr.refl _ _).alloc _)) hop hdk); clear hop hdk)
            go_roundw
            case rel => exact ⟨i + 1, c + 1, _, ρ1, by omega, by omega, by omega, by go_num, C1.out⟩
            case measure => simp [intOf]; omega
          · by_cases k1 : kind = 1
            · subst k1
              go_wp2_with (go_at_call 13; refine (DSync_any _ ρ M c 0 name _ (Z1.out.dk.no (((Fr.refl _ _).alloc _))) HNM.out (by omega)).mono ?_; rintro e w5 ⟨rfl, hop, hdk⟩; have C1 := _root_.Go.Lib.hid (Z1.out.step (((Fr.refl _ _).alloc _)) hop hdk); clear hop hdk)
              go_roundw
              case rel => exact ⟨i + 1, c + 1, _, ρ, by omega, by omega, by omega, by go_num, C1.out⟩
              case measure => simp [intOf]; omega
            · by_cases k2 : kind = 2
              · subst k2
                go_wp2_with (go_at_call 20; refine (DSwap_any _ ρ M c 0 name _ _ _ (Z1.out.dk.no (((Fr.refl _ _).alloc _))) HNM.out (by omega) (HR2.out.no (Z1.out.no.trans (((Fr.refl _ _).alloc _)) (fun _ _ a => a))) (old_role HR2.out Z1.out.new) (by have := HR2.out.room; omega)).mono ?_; rintro e w5 ⟨ρ1, rfl, hop, hdk⟩; have C1 := _root_.Go.Lib.hid (Z1.out.step (((Fr.refl _ _).alloc _)) hop hdk); clear hop hdk)
                go_roundw
                case rel => exact ⟨i + 1, c + 1, _, ρ1, by omega, by omega, by omega, by go_num, C1.out⟩
                case measure => simp [intOf]; omega
              · go_wp2
                go_roundw
                case rel => exact ⟨i + 1, c, M, ρ, by omega, by omega, by omega, by go_num, Z1.out.still (((Fr.refl _ _).alloc _))⟩
                case measure => simp [intOf]; omega
      · go_wp2_with (first
          | (refine wpList_len rfl (.tmp 82) 51 9 rfl Try.underlying51 _ 1 _ _ H3.out rfl ?_)
          | (refine wpList_len rfl (.tmp 80) 51 9 rfl Try.underlying51 _ 1 _ _ (G3.out.no H2.out) rfl ?_)
          | (go_at_call 26; refine (DNames_any _ ρb (crashM n M) 0 qb _ (F1.out.no G2.out) (by have := F3.out; omega)).mono ?_; rintro e w6 ⟨v14, K, rfl, hK, _, hN, hR, _⟩; have hK' := hK.eq G1.out; subst hK'; have H2 := _root_.Go.Lib.hid hN; have H3 := _root_.Go.Lib.hid hR; clear hK hN hR)
          | (go_at_call 26; refine (DNames_any _ ρa (crashM n M) 0 qa _ (E1.out.no F2.out) (by have := E3.out; omega)).mono ?_; rintro e w5 ⟨v13, L, rfl, hL, hlen, hN, hR, _⟩; have G1 := _root_.Go.Lib.hid hL; have G2 := _root_.Go.Lib.hid hN; have G3 := _root_.Go.Lib.hid hR; have G4 := _root_.Go.Lib.hid hlen; clear hL hN hR hlen)
          | (go_at_call 14; refine (DCrash_any _ ρa (crashM n M) 0 qa m _ E1.out (by have := E3.out; omega) HB.out.2.1 HB.out.2.2).mono ?_; rintro e w4 ⟨d12, ρb, qb, rfl, hD, hN, hq, _⟩; rw [crash_same m _ (crash_lasts n M Z1.out.dk.lasts)] at hD; obtain ⟨xb, yb, nb, Db, hdb, hD⟩ := hD; subst hdb; have F1 : Hid (DK w4 ρb (.pointer (some ⟨xb, 0, none⟩)) (crashM n M) 0 qb) := ⟨xb, yb, nb, Db, rfl, hD⟩; have F2 := _root_.Go.Lib.hid hN; have F3 : Hid (qb ≤ 30) := (by have := E3.out; show _ ≤ _; omega); clear hD hN hq)
          | (go_at_call 14; refine (DCrash_any _ ρ M c 0 n _ Z1.out.dk (by omega) HB.out.1.1 HB.out.1.2).mono ?_; rintro e w3 ⟨d11, ρa, qa, rfl, hD, hN, hq, _⟩; obtain ⟨xa, ya, na, Da, hda, hD⟩ := hD; subst hda; have E1 : Hid (DK w3 ρa (.pointer (some ⟨xa, 0, none⟩)) (crashM n M) 0 qa) := ⟨xa, ya, na, Da, rfl, hD⟩; have E2 := _root_.Go.Lib.hid hN; have E3 : Hid (qa ≤ 30) := (by show _ ≤ _; omega); clear hD hN hq))
        have J1 : Hid (No w w6) := (((Z1.out.no.trans E2.out (fun _ _ a => a)).trans F2.out (fun _ _ a => a)).trans G2.out (fun _ _ a => a)).trans H2.out (fun _ _ a => a)
        have J2 : Hid (DK w6 ρa (.pointer (some ⟨xa, 0, none⟩)) (crashM n M) 0 qa) := ((E1.out.no F2.out).no G2.out).no H2.out
        have J3 : Hid (DK w6 ρb (.pointer (some ⟨xb, 0, none⟩)) (crashM n M) 0 qb) := (F1.out.no G2.out).no H2.out
        have J4 : Hid (Rd 1 w6 v13 K.length (K.map encStr)) := G3.out.no H2.out
        have J5 := H3
        have J6 := G1
        have MLA := _root_.Go.Lib.hid Z1.out.dk.lasts
        clear E1 E2 E3 F1 F2 F3 G2 G3 H2 H3 Z1 G1
        have HKL : K.length ≤ 9223372036854775807 := by
          rcases J4.out.shape with ⟨_, h, _⟩ | ⟨_, _, cap, _, h1, h2, _⟩
          · omega
          · unfold maxLen at h2; omega
        obtain ⟨kl, hkl⟩ : ∃ kl, K.length = kl := ⟨_, rfl⟩
        have HKK := _root_.Go.Lib.hid hkl
        rw [hkl] at J4 J5 HKL
        simp only [hkl]
        clear hkl
        go_loopw [15] (fun y wr => ∃ j : Nat, j ≤ kl ∧ y = .int .i64 j ∧ No w6 wr) (fun y _ => kl - (intOf y).toNat)
        case atStart => exact ⟨0, by omega, rfl, Fr.refl _ _⟩
        case round =>
          obtain ⟨j, hj, rfl, hno⟩ := hrel
          have N0 := _root_.Go.Lib.hid hno
          clear hno
          by_cases hjk : (j : Int) < kl
          · have hjn : j < kl := by omega
            have hj0 : (0 : Int) ≤ j := by omega
            obtain ⟨nm, hnm⟩ : ∃ nm, K.getD j [] = nm := ⟨_, rfl⟩
            have hge : K[j]? = some nm := by rw [← hnm, List.getD_eq_getElem?_getD, List.getElem?_eq_getElem (by have := HKK.out; omega)]; rfl
            have hmem : nm ∈ K := List.mem_of_getElem? hge
            have hN : (ByteArray.mk nm.toArray).size ≤ maxLen := J6.out.short nm hmem
            obtain ⟨f, hf⟩ := Option.ne_none_iff_exists'.1 ((J6.out.mem nm).1 hmem)
            have hz := (crash_lasts n M MLA.out nm f hf).1
            have HF : Hid (crashM n M (ByteArray.mk nm.toArray).data.toList = some f) := hf
            have HZ := _root_.Go.Lib.hid hz
            have HN := _root_.Go.Lib.hid hN
            have hxs : (K.map encStr)[j]? = some (encStr nm) := by rw [List.getElem?_map, hge]; rfl
            rcases J4.out.shape with ⟨_, h0, _⟩ | ⟨ga, oa, ca, rfl, hca1, hca2, _⟩
            · omega
            rcases J5.out.shape with ⟨_, h0, _⟩ | ⟨gb, ob, cb, rfl, hcb1, hcb2, _⟩
            · omega
            have ca1 : wr.cell? ⟨ga, oa + j, none⟩ = some (.string ⟨nm.toArray⟩) := Rd.cellAt (J4.out.no N0.out) j _ hxs
            have cb1 : wr.cell? ⟨gb, ob + j, none⟩ = some (.string ⟨nm.toArray⟩) := Rd.cellAt (J5.out.no N0.out) j _ hxs
            have C4 : Hid (∀ w', No wr w' → w'.cell? ⟨ga, oa + j, none⟩ = some (.string ⟨nm.toArray⟩)) := fun w' hw => Rd.cellAt ((J4.out.no N0.out).no hw) j _ hxs
            have C5 : Hid (∀ w', No wr w' → w'.cell? ⟨gb, ob + j, none⟩ = some (.string ⟨nm.toArray⟩)) := fun w' hw => Rd.cellAt ((J5.out.no N0.out).no hw) j _ hxs
            unfold maxLen at hca2 hcb2
            clear hge hmem hN hf hz hxs hnm
            go_wp2_with (first
              | (go_at_call 15; refine (DRead_some ((J3.out.no N0.out).no R1.out) HN.out f HF.out).mono ?_; rintro e w8 ⟨v18, rfl, h8, k8, _, _⟩; have S1 := _root_.Go.Lib.hid h8; have S2 := _root_.Go.Lib.hid k8; have cb2 := C5.out w8 (R1.out.trans h8 (fun _ _ a => a)); have ca3 := C4.out w8 (R1.out.trans h8 (fun _ _ a => a)); clear h8 k8)
              | (go_at_call 15; refine (DRead_some (J2.out.no N0.out) HN.out f HF.out).mono ?_; rintro e w7 ⟨v16, rfl, h7, k7, _, _⟩; have R1 := _root_.Go.Lib.hid h7; have R2 := _root_.Go.Lib.hid k7; have ca2 := C4.out w7 h7; have cb3 := C5.out w7 h7; clear h7 k7))
            have hx : ∀ kk, (convert 22 9 v16).run Try.prog (w8.drewN kk) = .ok (.string ⟨f.b.toArray⟩) (w8.drewN kk) := fun kk => text_of Try.underlying22 Try.underlying5 Try.underlying9 (((R2.out.rb.no S1.out)).no ((Fr.refl _ _).drewN kk))
            have hy : ∀ kk, (convert 22 9 v18).run Try.prog (w8.drewN kk) = .ok (.string ⟨f.b.toArray⟩) (w8.drewN kk) := fun kk => text_of Try.underlying22 Try.underlying5 Try.underlying9 (S2.out.rb.no ((Fr.refl _ _).drewN kk))
            have HW : Hid (No wr w8) := R1.out.trans S1.out (fun _ _ a => a)
            have LZ : Hid (∀ kk, Calls Try.prog 25 #[.pointer (some ⟨xa, 0, none⟩), .string ⟨nm.toArray⟩] (w8.drewN kk) fun e w' => e = .returned (.int .i64 0) ∧ ∃ k, w' = (w8.drewN kk).drewN k) := fun kk =>
              (DLoose_any _ ρa (crashM n M) 0 qa ⟨nm.toArray⟩ _ (((J2.out.no N0.out).no HW.out).no ((Fr.refl _ _).drewN kk)) HN.out).mono (by
                rintro e w' ⟨rfl, hk⟩; rw [HF.out]; exact ⟨by simp [looseOf, HZ.out], hk⟩)
            go_quiet ((go_at_call 25; exact Calls.quiet_of (LZ.out _)))
            go_wp2
            go_roundw
            case rel => exact ⟨j + 1, by omega, by go_num, (N0.out.trans HW.out (fun _ _ a => a)).trans ((Fr.refl _ _).drewN _) (fun _ _ a => a)⟩
            case measure => simp [intOf]; omega
          · go_wp2_with (refine wpList_len rfl (.tmp 86) 51 9 rfl Try.underlying51 _ 1 _ _ (J4.out.no N0.out) rfl ?_)
            go_ret
            exact ⟨rfl, J1.out.trans N0.out (fun _ _ a => a)⟩
    · go_wp2_with (first
        | (refine wpList_len rfl (.tmp 82) 51 9 rfl Try.underlying51 _ 1 _ _ H3.out rfl ?_)
        | (refine wpList_len rfl (.tmp 80) 51 9 rfl Try.underlying51 _ 1 _ _ (G3.out.no H2.out) rfl ?_)
        | (go_at_call 26; refine (DNames_any _ ρb (crashM n M) 0 qb _ (F1.out.no G2.out) (by have := F3.out; omega)).mono ?_; rintro e w6 ⟨v14, K, rfl, hK, _, hN, hR, _⟩; have hK' := hK.eq G1.out; subst hK'; have H2 := _root_.Go.Lib.hid hN; have H3 := _root_.Go.Lib.hid hR; clear hK hN hR)
        | (go_at_call 26; refine (DNames_any _ ρa (crashM n M) 0 qa _ (E1.out.no F2.out) (by have := E3.out; omega)).mono ?_; rintro e w5 ⟨v13, L, rfl, hL, hlen, hN, hR, _⟩; have G1 := _root_.Go.Lib.hid hL; have G2 := _root_.Go.Lib.hid hN; have G3 := _root_.Go.Lib.hid hR; have G4 := _root_.Go.Lib.hid hlen; clear hL hN hR hlen)
        | (go_at_call 14; refine (DCrash_any _ ρa (crashM n M) 0 qa m _ E1.out (by have := E3.out; omega) HB.out.2.1 HB.out.2.2).mono ?_; rintro e w4 ⟨d12, ρb, qb, rfl, hD, hN, hq, _⟩; rw [crash_same m _ (crash_lasts n M Z1.out.dk.lasts)] at hD; obtain ⟨xb, yb, nb, Db, hdb, hD⟩ := hD; subst hdb; have F1 : Hid (DK w4 ρb (.pointer (some ⟨xb, 0, none⟩)) (crashM n M) 0 qb) := ⟨xb, yb, nb, Db, rfl, hD⟩; have F2 := _root_.Go.Lib.hid hN; have F3 : Hid (qb ≤ 30) := (by have := E3.out; show _ ≤ _; omega); clear hD hN hq)
        | (go_at_call 14; refine (DCrash_any _ ρ M c 0 n _ Z1.out.dk (by omega) HB.out.1.1 HB.out.1.2).mono ?_; rintro e w3 ⟨d11, ρa, qa, rfl, hD, hN, hq, _⟩; obtain ⟨xa, ya, na, Da, hda, hD⟩ := hD; subst hda; have E1 : Hid (DK w3 ρa (.pointer (some ⟨xa, 0, none⟩)) (crashM n M) 0 qa) := ⟨xa, ya, na, Da, rfl, hD⟩; have E2 := _root_.Go.Lib.hid hN; have E3 : Hid (qa ≤ 30) := (by show _ ≤ _; omega); clear hD hN hq))
      have J1 : Hid (No w w6) := (((Z1.out.no.trans E2.out (fun _ _ a => a)).trans F2.out (fun _ _ a => a)).trans G2.out (fun _ _ a => a)).trans H2.out (fun _ _ a => a)
      have J2 : Hid (DK w6 ρa (.pointer (some ⟨xa, 0, none⟩)) (crashM n M) 0 qa) := ((E1.out.no F2.out).no G2.out).no H2.out
      have J3 : Hid (DK w6 ρb (.pointer (some ⟨xb, 0, none⟩)) (crashM n M) 0 qb) := (F1.out.no G2.out).no H2.out
      have J4 : Hid (Rd 1 w6 v13 K.length (K.map encStr)) := G3.out.no H2.out
      have J5 := H3
      have J6 := G1
      have MLA := _root_.Go.Lib.hid Z1.out.dk.lasts
      clear E1 E2 E3 F1 F2 F3 G2 G3 H2 H3 Z1 G1
      have HKL : K.length ≤ 9223372036854775807 := by
        rcases J4.out.shape with ⟨_, h, _⟩ | ⟨_, _, cap, _, h1, h2, _⟩
        · omega
        · unfold maxLen at h2; omega
      obtain ⟨kl, hkl⟩ : ∃ kl, K.length = kl := ⟨_, rfl⟩
      have HKK := _root_.Go.Lib.hid hkl
      rw [hkl] at J4 J5 HKL
      simp only [hkl]
      clear hkl
      go_loopw [15] (fun y wr => ∃ j : Nat, j ≤ kl ∧ y = .int .i64 j ∧ No w6 wr) (fun y _ => kl - (intOf y).toNat)
      case atStart => exact ⟨0, by omega, rfl, Fr.refl _ _⟩
      case round =>
        obtain ⟨j, hj, rfl, hno⟩ := hrel
        have N0 := _root_.Go.Lib.hid hno
        clear hno
        by_cases hjk : (j : Int) < kl
        · have hjn : j < kl := by omega
          have hj0 : (0 : Int) ≤ j := by omega
          obtain ⟨nm, hnm⟩ : ∃ nm, K.getD j [] = nm := ⟨_, rfl⟩
          have hge : K[j]? = some nm := by rw [← hnm, List.getD_eq_getElem?_getD, List.getElem?_eq_getElem (by have := HKK.out; omega)]; rfl
          have hmem : nm ∈ K := List.mem_of_getElem? hge
          have hN : (ByteArray.mk nm.toArray).size ≤ maxLen := J6.out.short nm hmem
          obtain ⟨f, hf⟩ := Option.ne_none_iff_exists'.1 ((J6.out.mem nm).1 hmem)
          have hz := (crash_lasts n M MLA.out nm f hf).1
          have HF : Hid (crashM n M (ByteArray.mk nm.toArray).data.toList = some f) := hf
          have HZ := _root_.Go.Lib.hid hz
          have HN := _root_.Go.Lib.hid hN
          have hxs : (K.map encStr)[j]? = some (encStr nm) := by rw [List.getElem?_map, hge]; rfl
          rcases J4.out.shape with ⟨_, h0, _⟩ | ⟨ga, oa, ca, rfl, hca1, hca2, _⟩
          · omega
          rcases J5.out.shape with ⟨_, h0, _⟩ | ⟨gb, ob, cb, rfl, hcb1, hcb2, _⟩
          · omega
          have ca1 : wr.cell? ⟨ga, oa + j, none⟩ = some (.string ⟨nm.toArray⟩) := Rd.cellAt (J4.out.no N0.out) j _ hxs
          have cb1 : wr.cell? ⟨gb, ob + j, none⟩ = some (.string ⟨nm.toArray⟩) := Rd.cellAt (J5.out.no N0.out) j _ hxs
          have C4 : Hid (∀ w', No wr w' → w'.cell? ⟨ga, oa + j, none⟩ = some (.string ⟨nm.toArray⟩)) := fun w' hw => Rd.cellAt ((J4.out.no N0.out).no hw) j _ hxs
          have C5 : Hid (∀ w', No wr w' → w'.cell? ⟨gb, ob + j, none⟩ = some (.string ⟨nm.toArray⟩)) := fun w' hw => Rd.cellAt ((J5.out.no N0.out).no hw) j _ hxs
          unfold maxLen at hca2 hcb2
          clear hge hmem hN hf hz hxs hnm
          go_wp2_with (first
            | (go_at_call 15; refine (DRead_some ((J3.out.no N0.out).no R1.out) HN.out f HF.out).mono ?_; rintro e w8 ⟨v18, rfl, h8, k8, _, _⟩; have S1 := _root_.Go.Lib.hid h8; have S2 := _root_.Go.Lib.hid k8; have cb2 := C5.out w8 (R1.out.trans h8 (fun _ _ a => a)); have ca3 := C4.out w8 (R1.out.trans h8 (fun _ _ a => a)); clear h8 k8)
            | (go_at_call 15; refine (DRead_some (J2.out.no N0.out) HN.out f HF.out).mono ?_; rintro e w7 ⟨v16, rfl, h7, k7, _, _⟩; have R1 := _root_.Go.Lib.hid h7; have R2 := _root_.Go.Lib.hid k7; have ca2 := C4.out w7 h7; have cb3 := C5.out w7 h7; clear h7 k7))
          have hx : ∀ kk, (convert 22 9 v16).run Try.prog (w8.drewN kk) = .ok (.string ⟨f.b.toArray⟩) (w8.drewN kk) := fun kk => text_of Try.underlying22 Try.underlying5 Try.underlying9 (((R2.out.rb.no S1.out)).no ((Fr.refl _ _).drewN kk))
          have hy : ∀ kk, (convert 22 9 v18).run Try.prog (w8.drewN kk) = .ok (.string ⟨f.b.toArray⟩) (w8.drewN kk) := fun kk => text_of Try.underlying22 Try.underlying5 Try.underlying9 (S2.out.rb.no ((Fr.refl _ _).drewN kk))
          have HW : Hid (No wr w8) := R1.out.trans S1.out (fun _ _ a => a)
          have LZ : Hid (∀ kk, Calls Try.prog 25 #[.pointer (some ⟨xa, 0, none⟩), .string ⟨nm.toArray⟩] (w8.drewN kk) fun e w' => e = .returned (.int .i64 0) ∧ ∃ k, w' = (w8.drewN kk).drewN k) := fun kk =>
            (DLoose_any _ ρa (crashM n M) 0 qa ⟨nm.toArray⟩ _ (((J2.out.no N0.out).no HW.out).no ((Fr.refl _ _).drewN kk)) HN.out).mono (by
              rintro e w' ⟨rfl, hk⟩; rw [HF.out]; exact ⟨by simp [looseOf, HZ.out], hk⟩)
          go_quiet ((go_at_call 25; exact Calls.quiet_of (LZ.out _)))
          go_wp2
          go_roundw
          case rel => exact ⟨j + 1, by omega, by go_num, (N0.out.trans HW.out (fun _ _ a => a)).trans ((Fr.refl _ _).drewN _) (fun _ _ a => a)⟩
          case measure => simp [intOf]; omega
        · go_wp2_with (refine wpList_len rfl (.tmp 86) 51 9 rfl Try.underlying51 _ 1 _ _ (J4.out.no N0.out) rfl ?_)
          go_ret
          exact ⟨rfl, J1.out.trans N0.out (fun _ _ a => a)⟩
end Go.Proofs.Ytgbfbijjbkfglaa
