/-
  No disk: what each function tells of it; the walk of DiskNone.
-/
import Derived.Test.YtgbfbijjbkfglaaDiskJ
namespace Go.Proofs.Ytgbfbijjbkfglaa
open Go.RowKit Go.Maps


section
variable (name : ByteArray) (v : Value) (n : Int) (w : World)
set_option maxRecDepth 100000
theorem nApp : Calls Try.prog 12 #[.pointer none, .string name, v] w fun e w' => e = .returned (.int .i64 6) ∧ w' = w := by
  go_enter Try.func12, Try.ntmps12
  go_wp2
  go_ret
  exact ⟨rfl, rfl⟩
theorem nSwap : Calls Try.prog 20 #[.pointer none, .string name, v] w fun e w' => e = .returned (.int .i64 6) ∧ w' = w := by
  go_enter Try.func20, Try.ntmps20
  go_wp2
  go_ret
  exact ⟨rfl, rfl⟩
theorem nSync : Calls Try.prog 13 #[.pointer none, .string name] w fun e w' => e = .returned (.int .i64 6) ∧ w' = w := by
  go_enter Try.func13, Try.ntmps13
  go_wp2
  go_ret
  exact ⟨rfl, rfl⟩
theorem nRead : Calls Try.prog 15 #[.pointer none, .string name] w fun e w' => e = .returned (.tuple #[.slice none 0 0, .int .i64 6]) ∧ w' = w := by
  go_enter Try.func15, Try.ntmps15
  go_wp2
  go_ret2
  exact ⟨rfl, rfl⟩
theorem nLoose : Calls Try.prog 25 #[.pointer none, .string name] w fun e w' => e = .returned (.int .i64 0) ∧ w' = w := by
  go_enter Try.func25, Try.ntmps25
  go_wp2
  go_ret
  exact ⟨rfl, rfl⟩
theorem nCalls : Calls Try.prog 27 #[.pointer none] w fun e w' => e = .returned (.int .i64 0) ∧ w' = w := by
  go_enter Try.func27, Try.ntmps27
  go_wp2
  go_ret
  exact ⟨rfl, rfl⟩
theorem nNames : Calls Try.prog 26 #[.pointer none] w fun e w' => e = .returned (.slice none 0 0) ∧ w' = w := by
  go_enter Try.func26, Try.ntmps26
  go_wp2
  go_ret
  exact ⟨rfl, rfl⟩
theorem nCrash : Calls Try.prog 14 #[.pointer none, .int .i64 n] w fun e w' => e = .returned (.pointer none) ∧ w' = w := by
  go_enter Try.func14, Try.ntmps14
  go_wp2
  go_ret
  exact ⟨rfl, rfl⟩
end

set_option maxRecDepth 100000 in
set_option maxHeartbeats 2000000 in
theorem DiskNone_walk (w : World) : Calls Try.prog 7 #[] w fun e w' => e = .returned (.bool true) ∧ No w w' := by
  have hn : (ByteArray.mk #[]).size ≤ maxLen := by decide
  have HN := _root_.Go.Lib.hid hn
  clear hn
  go_enter Try.func7, Try.ntmps7
  go_wp2_with (first
    | (go_at_call 12; refine (DApp_is (M' := fun _ => none) ⟨db, mb, nn, D0, rfl, B1.out⟩ HN.out (by omega) _ [] (.inl ⟨rfl, rfl⟩) (fun k hk _ => by simp [Value.ownBlock] at hk) (by simp) 1 (by kernel_rfl) (by kernel_rfl)).mono ?_;
        rintro e w4 ⟨rfl, ρ1, hop, hdk⟩; have C1 := _root_.Go.Lib.hid (hop.fresh B2.out B3.out); clear hop hdk)
    | (go_at_call 11; refine (DNew_any _).mono ?_; rintro e w3 ⟨dd, ρ0, rfl, hD, hN, hR⟩; obtain ⟨db, mb, nn, D0, hdd, hD⟩ := hD; subst hdd; have B1 := _root_.Go.Lib.hid hD; have B2 := _root_.Go.Lib.hid (A1.out.trans hN (fun _ _ a => a)); have B3 := _root_.Go.Lib.hid (fun k hk => Nat.le_trans A1.out.size (hR k hk)); clear hD hN hR)
    | (go_at_call 10; refine (begun_any _).mono ?_; rintro e w1 ⟨rfl, h1⟩; have A1 := _root_.Go.Lib.hid h1; clear h1)
    | (go_at_call 12; refine (nApp _ _ _).mono ?_; rintro e w2 ⟨rfl, rfl⟩)
    | (go_at_call 20; refine (nSwap _ _ _).mono ?_; rintro e w2 ⟨rfl, rfl⟩)
    | (go_at_call 13; refine (nSync _ _).mono ?_; rintro e w2 ⟨rfl, rfl⟩)
    | (go_at_call 15; refine (nRead _ _).mono ?_; rintro e w2 ⟨rfl, rfl⟩)
    | (go_at_call 25; refine (nLoose _ _).mono ?_; rintro e w2 ⟨rfl, rfl⟩)
    | (go_at_call 27; refine (nCalls _).mono ?_; rintro e w2 ⟨rfl, rfl⟩)
    | (go_at_call 26; refine (nNames _).mono ?_; rintro e w2 ⟨rfl, rfl⟩)
    | (go_at_call 14; refine (nCrash _ _).mono ?_; rintro e w2 ⟨rfl, rfl⟩))
  go_ret
  exact ⟨rfl, C1.out.1⟩
end Go.Proofs.Ytgbfbijjbkfglaa
