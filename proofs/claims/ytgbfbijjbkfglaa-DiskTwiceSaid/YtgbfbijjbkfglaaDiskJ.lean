/-
  The disk's functions where what they tell is known; begun.
-/
import Derived.Test.YtgbfbijjbkfglaaDiskI
import Derived.Laws.BytesArg
import Derived.Lib.SlBytesConst
namespace Go.Proofs.Ytgbfbijjbkfglaa
open Go.RowKit Go.Maps

section
variable {w w1 w2 : World} {ρ ρ' : Nat → Role} {d : Value} {M M' : List UInt8 → Option Fl} {c q : Nat} {name : ByteArray}
theorem Op'.fresh (h : Op' w1 ρ w2 ρ') (hw : No w w1) (hf : ∀ k, ρ k ≠ .no → w.heap.size ≤ k) : No w w2 ∧ ∀ k, ρ' k ≠ .no → w.heap.size ≤ k :=
  ⟨hw.trans h.fr fun i hi e => by have := hf i e; omega, fun k e => (h.roles k e).elim (hf k) fun a => Nat.le_trans hw.size a⟩
theorem DRead_some (h : DK w ρ d M c q) (hn : name.size ≤ maxLen) (f : Fl) (hM : M name.data.toList = some f) :
    Calls Try.prog 15 #[d, .string name] w fun e w' => ∃ v, e = .returned (.tuple #[v, .int .i64 0]) ∧ No w w' ∧ OB 0 w' v f.b ∧ Newer w v ∧ OWr w' v f.b :=
  (DRead_any d ρ M c q name w h hn).mono (by rintro e w' ⟨v, rfl, a, b, c, d⟩; rw [hM] at b d ⊢; exact ⟨v, rfl, a, b, c, d⟩)
theorem DRead_none (h : DK w ρ d M c q) (hn : name.size ≤ maxLen) (hM : M name.data.toList = none) :
    Calls Try.prog 15 #[d, .string name] w fun e w' => ∃ v, e = .returned (.tuple #[v, .int .i64 6]) ∧ No w w' ∧ OB 0 w' v [] ∧ Newer w v ∧ OWr w' v [] :=
  (DRead_any d ρ M c q name w h hn).mono (by rintro e w' ⟨v, rfl, a, b, c, d⟩; rw [hM] at b d ⊢; exact ⟨v, rfl, a, b, c, d⟩)
theorem DLoose_is (h : DK w ρ d M c q) (hn : name.size ≤ maxLen) (k : Int) (hM : (looseOf (M name.data.toList) : Int) = k) :
    Calls Try.prog 25 #[d, .string name] w fun e w' => e = .returned (.int .i64 k) ∧ No w w' :=
  (DLoose_any d ρ M c q name w h hn).mono (by rintro e w' ⟨rfl, kk, rfl⟩; rw [hM]; exact ⟨rfl, (Fr.refl _ _).drewN kk⟩)
theorem DApp_is (h : DK w ρ d M c q) (hn : name.size ≤ maxLen) (hc : c + q ≤ 1000000) (vb : Value) (l : List UInt8) (hvb : RA w vb l) (hvo : ∀ k, vb.ownBlock = some k → l ≠ [] → ρ k = .no) (hlb : l.length ≤ 1000000000000)
    (r : Int) (hA : ((appOf M name.data.toList l).1 : Int) = r) (hA2 : (appOf M name.data.toList l).2 = M') :
    Calls Try.prog 12 #[d, .string name, vb] w fun e w' => e = .returned (.int .i64 r) ∧ ∃ ρ', Op' w ρ w' ρ' ∧ DK w' ρ' d M' (c + 1) q :=
  (DApp_any d ρ M c q name vb l w h hn hc hvb hvo hlb).mono (by rintro e w' ⟨ρ', rfl, a, b⟩; rw [hA]; rw [hA2] at b; exact ⟨rfl, ρ', a, b⟩)
theorem DSwap_is (h : DK w ρ d M c q) (hn : name.size ≤ maxLen) (hc : c + q ≤ 1000000) (vb : Value) (l : List UInt8) (hvb : RA w vb l) (hvo : ∀ k, vb.ownBlock = some k → l ≠ [] → ρ k = .no) (hlb : l.length ≤ 1000000000000)
    (r : Int) (hA : ((swapOf M name.data.toList l).1 : Int) = r) (hA2 : (swapOf M name.data.toList l).2 = M') :
    Calls Try.prog 20 #[d, .string name, vb] w fun e w' => e = .returned (.int .i64 r) ∧ ∃ ρ', Op' w ρ w' ρ' ∧ DK w' ρ' d M' (c + 1) q :=
  (DSwap_any d ρ M c q name vb l w h hn hc hvb hvo hlb).mono (by rintro e w' ⟨ρ', rfl, a, b⟩; rw [hA]; rw [hA2] at b; exact ⟨rfl, ρ', a, b⟩)
theorem DSync_some (h : DK w ρ d M c q) (hn : name.size ≤ maxLen) (hc : c + q ≤ 1000000) (f : Fl) (hM : M name.data.toList = some f) :
    Calls Try.prog 13 #[d, .string name] w fun e w' => e = .returned (.int .i64 0) ∧ Op' w ρ w' ρ ∧ DK w' ρ d (setM M name.data.toList (some { f with lasts := f.b.length, there := true })) (c + 1) q :=
  (DSync_any d ρ M c q name w h hn hc).mono (by rintro e w' ⟨rfl, a, b⟩; rw [hM] at b ⊢; exact ⟨rfl, a, b⟩)

/-- A text made of bytes. -/
theorem textA {P : Program} {ty te ts : TypeId} (hu : P.underlying ty = some (.slice te)) (he : P.underlying te = some (.int .u8)) (hs : P.underlying ts = some .string) {v : Value} {l : List UInt8} (h : RA w v l) :
    (convert ty ts v).run P w = .ok (.string ⟨l.toArray⟩) w := by
  rcases h with ⟨rfl, rfl⟩ | ⟨a, cap, rfl, _, _, hc⟩
  · exact run_convert_bytes_nil w ty te hu he 0 0 ts hs
  · have hl : (loadCells a l.length).run P w = .ok ((l.map by8).map (Value.int .u8)).toArray w := by
      have := run_loadCells_list (P := P) w a ((l.map by8).map (Value.int .u8)) (fun j u hj => by
        by_cases hjl : j < l.length
        · rw [hc j hjl]; simp [hjl] at hj; rw [← hj]; simp [hjl]
        · simp [List.getElem?_eq_none (Nat.le_of_not_lt hjl)] at hj)
      simpa using this
    rw [run_convert_bytes_string w ty ts te _ l.length cap hu he hs, run_bytesToString w _ l.length cap (l.map by8) hl, foldl_push_bytes]
    simp [ByteArray.empty, ByteArray.emptyWithCapacity, by8, List.map_map, Function.comp_def]
    rfl
theorem text_of {P : Program} {ty te ts : TypeId} (hu : P.underlying ty = some (.slice te)) (he : P.underlying te = some (.int .u8)) (hs : P.underlying ts = some .string) {v : Value} {l : List UInt8} (h : RB w v l) :
    (convert ty ts v).run P w = .ok (.string ⟨l.toArray⟩) w := textA hu he hs h.ra
end
theorem RB.made (w : World) (e : TypeId) (l : List UInt8) (n : Nat) (fz : Nat × Nat) (hn : l.length = n) (hm : n ≤ 1000000000) : RB (w.alloc (.cells (bs l).toArray e fz)) (.slice (some ⟨w.heap.size, 0, none⟩) n n) l := by
  subst hn
  exact ⟨by simp [bs_length], bs_one, .inr ⟨w.heap.size, 0, l.length, _, e, fz, rfl, heap_alloc_new w _, by simp; exact List.take_of_length_le (by simp [bs_length]), Nat.le_refl _, by unfold maxLen; omega⟩⟩

def M1 : List UInt8 → Option Fl := setM (fun _ => none) [97] (some ⟨[120, 121, 122], 0, false⟩)

set_option maxRecDepth 100000 in
set_option maxHeartbeats 2000000 in
theorem begun_any (w : World) : Calls Try.prog 10 #[] w fun e w' => e = .returned (.bool true) ∧ No w w' := by
  have hn : (ByteArray.mk #[97]).size ≤ maxLen := by decide
  have HN := _root_.Go.Lib.hid hn
  clear hn
  have hcv := fun (w : World) (C : Array Value) (n c : Nat) => _root_.Go.Lib.run_convert_bytes_const (P := Try.prog) w 22 5 C n c Try.underlying22 Try.underlying5
  go_enter Try.func10, Try.ntmps10
  go_wp2_with (first
    | (go_at_call 27; refine (DCalls_any _ ρ1 _ 2 0 _ (S2.out.no L1.out)).mono ?_; rintro e w10 ⟨rfl, rfl⟩)
    | (go_at_call 25; refine (DLoose_is S2.out HN.out 0 (by kernel_rfl)).mono ?_; rintro e w9 ⟨rfl, h9⟩; have L1 := _root_.Go.Lib.hid h9; clear h9)
    | (go_at_call 13; refine (DSync_some (B2.out.no (T2.out.trans H1.out (fun _ _ a => a))) HN.out (by omega) ⟨[120, 121, 122], 0, false⟩ (by kernel_rfl)).mono ?_; rintro e w8 ⟨rfl, h8, k8⟩; have S1 := _root_.Go.Lib.hid h8; have S2 := _root_.Go.Lib.hid k8; clear h8 k8)
    | (go_at_call 15; refine (DRead_none G1.out HN.out (by kernel_rfl)).mono ?_; rintro e w7 ⟨v7, rfl, h7, _, _⟩; have H1 := _root_.Go.Lib.hid h7; have hx := text_of Try.underlying22 Try.underlying5 Try.underlying9 ((F2.out.no (G2.out.trans h7 (fun _ _ a => a))).rb); clear h7)
    | (go_at_call 14; refine (DCrash_any _ ρ1 M1 1 0 0 _ (B2.out.no T1.out) (by omega) (by omega) (by omega)).mono ?_; rintro e w6 ⟨dc2, ρc2, qc2, rfl, hD, hN, _, _⟩; have G1 := _root_.Go.Lib.hid hD; have G2 := _root_.Go.Lib.hid hN; have T2 := _root_.Go.Lib.hid (T1.out.trans hN (fun _ _ a => a)); clear hD hN)
    | (go_at_call 15; refine (DRead_some D1.out HN.out ⟨[120, 121], 2, true⟩ (by kernel_rfl)).mono ?_; rintro e w5 ⟨v5, rfl, h5, k5, _⟩; have F2 := _root_.Go.Lib.hid k5; have T1 := _root_.Go.Lib.hid (C1.out.trans (D2.out.trans h5 (fun _ _ a => a)) (fun _ _ a => a)); clear h5 k5)
    | (go_at_call 14; refine (DCrash_any _ ρ1 M1 1 0 2 _ (B2.out.no C1.out) (by omega) (by omega) (by omega)).mono ?_; rintro e w4 ⟨dc, ρc, qc, rfl, hD, hN, _, _⟩; have D1 := _root_.Go.Lib.hid hD; have D2 := _root_.Go.Lib.hid hN; clear hD hN)
    | (go_at_call 25; refine (DLoose_is B2.out HN.out 3 (by kernel_rfl)).mono ?_; rintro e w3 ⟨rfl, h3⟩; have C1 := _root_.Go.Lib.hid h3; clear h3)
    | (go_at_call 11; refine (DNew_any _).mono ?_; rintro e w1 ⟨dd, ρ0, rfl, hD, hN, hR⟩; obtain ⟨db, mb, nn, D0, hdd, hD⟩ := hD; subst hdd; have A1 := _root_.Go.Lib.hid hD; have A2 := _root_.Go.Lib.hid hN; have A3 := _root_.Go.Lib.hid hR; clear hD hN hR)
    | (go_at_call 12; refine (DApp_is (M' := M1) (DK.no ⟨db, mb, nn, D0, rfl, A1.out⟩ ((Fr.refl _ _).alloc _)) HN.out (by omega) _ [120, 121, 122] (RB.ra (RB.made w1 5 [120, 121, 122] 3 (3, 4) rfl (by omega))) (fun k hk _ => by simp [Value.ownBlock] at hk; subst hk; cases hr : ρ0 w1.heap.size with | no => rfl | _ => have := A1.out.lt w1.heap.size (by rw [hr]; simp); omega) (by simp) 0 (by kernel_rfl) (by kernel_rfl)).mono ?_;
        rintro e w2 ⟨rfl, ρ1, hop, hdk⟩; have B1 := _root_.Go.Lib.hid (hop.fresh (A2.out.alloc _) A3.out); have B2 := _root_.Go.Lib.hid hdk; clear hop hdk))
  go_ret
  refine ⟨rfl, ?_⟩
  exact (S1.out.fresh (B1.out.1.trans (T2.out.trans H1.out (fun _ _ a => a)) (fun _ _ a => a)) B1.out.2).1.trans L1.out (fun _ _ a => a)
end Go.Proofs.Ytgbfbijjbkfglaa
