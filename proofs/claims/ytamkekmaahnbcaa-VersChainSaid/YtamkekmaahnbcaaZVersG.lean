/-
  VersLimits, walked.
-/
import Derived.Test.YtamkekmaahnbcaaZR
import Derived.Test.YtamkekmaahnbcaaZQ
namespace Go.Proofs.Ytamkekmaahnbcaa
open Go.RowKit

theorem tmod_bd (a b : Int) (hb : 0 < b) : -b < a.tmod b ∧ a.tmod b < b := by
  constructor
  · exact Int.lt_tmod_of_pos a hb
  · exact Int.tmod_lt_of_pos a hb
section
variable {P : Program} {n : Nat} {Q : Post} {ρ : Env} {w : World} {ops : Array Oper} {rest : List Oper} {d : Nat} {T : TypeId} {p : String} {af : Array Edge} {gd : Option (Nat × Bool)}
theorem x_beq {xt yt : TypeId} {x y : Operand} {a b : Bool} (r : Bool) {dst : Option Nat} (ht : P.underlying xt = some .bool) (hx : ev ρ x = .bool a := by rfl) (hy : ev ρ y = .bool b := by rfl) (hr : (a == b) = r := by rfl) :
    (execOp (ev ρ) ⟨dst, .binOp .eql xt x y yt, T, p, af, gd⟩).run P w = .ok (.value (.bool r)) w := by
  subst hr
  simp [execOp, hx, hy, eqGuard, run_eql_bool w xt a b ht]
theorem q_beq {xt yt : TypeId} {x y : Operand} {a b : Bool} (r : Bool) (ht : P.underlying xt = some .bool) (h : LW P n ops Q rest (upd ρ d (.bool r)) w) (hx : ev ρ x = .bool a := by rfl) (hy : ev ρ y = .bool b := by rfl) (hr : (a == b) = r := by rfl) (hd : Nat.blt d n = true := by rfl) (hw : Wanted ops ρ gd := by first | exact .none | exact .some ⟨_, rfl, rfl⟩) :
    LW P n ops Q (⟨some d, .binOp .eql xt x y yt, T, p, af, gd⟩ :: rest) ρ w := lw_value hw hd (x_beq r ht hx hy hr) h
end
def vL (c n k e d : Int) : V := ⟨c, n, k, B32.zero, B32.zero, e, ⟨0, 0, 0, d⟩, B32.zero⟩
theorem vL_may (c n k e d : Int) : vmay (vL c n k e d) ↔ (1 ≤ c ∧ c ≤ 4) ∧ (1 ≤ n ∧ n ≤ 150) ∧ (1 ≤ k ∧ k ≤ 150) ∧ (0 ≤ e ∧ e ≤ 150) ∧ (0 ≤ d ∧ d ≤ 150) :=
  ⟨fun h => ⟨h.client, h.n, h.count, h.epoch, h.d⟩, fun ⟨h1, h2, h3, h4, h5⟩ => ⟨by show (0 : Int) ≤ 0 ∧ (0 : Int) ≤ 150; omega, by show (0 : Int) ≤ 0 ∧ (0 : Int) ≤ 150; omega, by show (0 : Int) ≤ 0 ∧ (0 : Int) ≤ 150; omega, h5, h1, h2, h3, h4⟩⟩
theorem may_L (c n k e d : Int) {r : Bool} (hr : r = true ↔ vmay (vL c n k e d)) (w : World) : Calls Try.prog 27 #[(vL c n k e d).val] w fun e w' => e = .returned (.bool r) ∧ No w w' := by
  cases r with
  | true => exact May_t (hr.1 rfl) w
  | false => exact May_f (fun h => by have := hr.2 h; cases this) w
set_option maxRecDepth 100000 in
set_option maxHeartbeats 4000000 in
theorem VersLimits_walk (which x : Int) (W : World) : Calls Try.prog 10 #[.int .i64 which, .int .i64 x] W fun e w' => e = .returned (.bool true) ∧ No W w' := by
  have H := St.nil (fun _ => False) W
  obtain ⟨r1, hr1⟩ : ∃ r, which.tmod 5 = r := ⟨_, rfl⟩
  have hb := tmod_bd which 5 (by omega)
  rw [hr1] at hb
  refine q_enter Try.func10 rfl rfl ?_
  refine go_R H ?_; clear H; intro w H
  refine q_call (begun14_any _) ?_; rintro _ w1 ⟨rfl, hNo⟩; replace H := H.no hNo; clear hNo; refine ⟨_, rfl, ?_⟩
  refine go_R H ?_; clear H; intro w H
  refine q_buildR (vL 1 1 1 0 0).ss ?_
  refine go_R H ?_; clear H; intro w H
  refine q_alloc H ?_; clear H; intro g w H
  refine go_R H ?_; clear H; intro w H
  refine q_remW ?_ hr1
  refine go_R H ?_; clear H; intro w H
  refine q_eq_s ?_ ?_ <;> intro h0
  · refine go_R H ?_; clear H; intro w H
    by_cases ha : 1 ≤ x
    · by_cases hc : x ≤ 4
      · refine q_call (may_L x 1 1 0 0 (r := true) (by rw [vL_may]; simp; omega) _) ?_; rintro _ w1 ⟨rfl, hNo⟩; replace H := H.no hNo; clear hNo; refine ⟨_, rfl, ?_⟩
        refine go_R H ?_; clear H; intro w H
        refine q_beq true Try.underlying4 ?_
        refine go_R H ?_; clear H; intro w H
        exact ret1 rfl rv_tmp ⟨rfl, H.fr⟩
      · refine q_call (may_L x 1 1 0 0 (r := false) (by rw [vL_may]; simp; omega) _) ?_; rintro _ w1 ⟨rfl, hNo⟩; replace H := H.no hNo; clear hNo; refine ⟨_, rfl, ?_⟩
        refine go_R H ?_; clear H; intro w H
        refine q_beq true Try.underlying4 ?_
        refine go_R H ?_; clear H; intro w H
        exact ret1 rfl rv_tmp ⟨rfl, H.fr⟩
    · refine q_call (may_L x 1 1 0 0 (r := false) (by rw [vL_may]; simp; omega) _) ?_; rintro _ w1 ⟨rfl, hNo⟩; replace H := H.no hNo; clear hNo; refine ⟨_, rfl, ?_⟩
      refine go_R H ?_; clear H; intro w H
      refine q_beq true Try.underlying4 ?_
      refine go_R H ?_; clear H; intro w H
      exact ret1 rfl rv_tmp ⟨rfl, H.fr⟩
  refine go_R H ?_; clear H; intro w H
  refine q_eq_s ?_ ?_ <;> intro h1
  · refine go_R H ?_; clear H; intro w H
    by_cases ha : 1 ≤ x
    · by_cases hc : x ≤ 150
      · refine q_call (may_L 1 x 1 0 0 (r := true) (by rw [vL_may]; simp; omega) _) ?_; rintro _ w1 ⟨rfl, hNo⟩; replace H := H.no hNo; clear hNo; refine ⟨_, rfl, ?_⟩
        refine go_R H ?_; clear H; intro w H
        refine q_beq true Try.underlying4 ?_
        refine go_R H ?_; clear H; intro w H
        exact ret1 rfl rv_tmp ⟨rfl, H.fr⟩
      · refine q_call (may_L 1 x 1 0 0 (r := false) (by rw [vL_may]; simp; omega) _) ?_; rintro _ w1 ⟨rfl, hNo⟩; replace H := H.no hNo; clear hNo; refine ⟨_, rfl, ?_⟩
        refine go_R H ?_; clear H; intro w H
        refine q_beq true Try.underlying4 ?_
        refine go_R H ?_; clear H; intro w H
        exact ret1 rfl rv_tmp ⟨rfl, H.fr⟩
    · refine q_call (may_L 1 x 1 0 0 (r := false) (by rw [vL_may]; simp; omega) _) ?_; rintro _ w1 ⟨rfl, hNo⟩; replace H := H.no hNo; clear hNo; refine ⟨_, rfl, ?_⟩
      refine go_R H ?_; clear H; intro w H
      refine q_beq true Try.underlying4 ?_
      refine go_R H ?_; clear H; intro w H
      exact ret1 rfl rv_tmp ⟨rfl, H.fr⟩
  refine go_R H ?_; clear H; intro w H
  refine q_eq_s ?_ ?_ <;> intro h2
  · refine go_R H ?_; clear H; intro w H
    by_cases ha : 1 ≤ x
    · by_cases hc : x ≤ 150
      · refine q_call (may_L 1 1 x 0 0 (r := true) (by rw [vL_may]; simp; omega) _) ?_; rintro _ w1 ⟨rfl, hNo⟩; replace H := H.no hNo; clear hNo; refine ⟨_, rfl, ?_⟩
        refine go_R H ?_; clear H; intro w H
        refine q_beq true Try.underlying4 ?_
        refine go_R H ?_; clear H; intro w H
        exact ret1 rfl rv_tmp ⟨rfl, H.fr⟩
      · refine q_call (may_L 1 1 x 0 0 (r := false) (by rw [vL_may]; simp; omega) _) ?_; rintro _ w1 ⟨rfl, hNo⟩; replace H := H.no hNo; clear hNo; refine ⟨_, rfl, ?_⟩
        refine go_R H ?_; clear H; intro w H
        refine q_beq true Try.underlying4 ?_
        refine go_R H ?_; clear H; intro w H
        exact ret1 rfl rv_tmp ⟨rfl, H.fr⟩
    · refine q_call (may_L 1 1 x 0 0 (r := false) (by rw [vL_may]; simp; omega) _) ?_; rintro _ w1 ⟨rfl, hNo⟩; replace H := H.no hNo; clear hNo; refine ⟨_, rfl, ?_⟩
      refine go_R H ?_; clear H; intro w H
      refine q_beq true Try.underlying4 ?_
      refine go_R H ?_; clear H; intro w H
      exact ret1 rfl rv_tmp ⟨rfl, H.fr⟩
  refine go_R H ?_; clear H; intro w H
  refine q_eq_s ?_ ?_ <;> intro h3
  · refine go_R H ?_; clear H; intro w H
    by_cases ha : 0 ≤ x
    · by_cases hc : x ≤ 150
      · refine q_call (may_L 1 1 1 x 0 (r := true) (by rw [vL_may]; simp; omega) _) ?_; rintro _ w1 ⟨rfl, hNo⟩; replace H := H.no hNo; clear hNo; refine ⟨_, rfl, ?_⟩
        refine go_R H ?_; clear H; intro w H
        refine q_beq true Try.underlying4 ?_
        refine go_R H ?_; clear H; intro w H
        exact ret1 rfl rv_tmp ⟨rfl, H.fr⟩
      · refine q_call (may_L 1 1 1 x 0 (r := false) (by rw [vL_may]; simp; omega) _) ?_; rintro _ w1 ⟨rfl, hNo⟩; replace H := H.no hNo; clear hNo; refine ⟨_, rfl, ?_⟩
        refine go_R H ?_; clear H; intro w H
        refine q_beq true Try.underlying4 ?_
        refine go_R H ?_; clear H; intro w H
        exact ret1 rfl rv_tmp ⟨rfl, H.fr⟩
    · refine q_call (may_L 1 1 1 x 0 (r := false) (by rw [vL_may]; simp; omega) _) ?_; rintro _ w1 ⟨rfl, hNo⟩; replace H := H.no hNo; clear hNo; refine ⟨_, rfl, ?_⟩
      refine go_R H ?_; clear H; intro w H
      refine q_beq true Try.underlying4 ?_
      refine go_R H ?_; clear H; intro w H
      exact ret1 rfl rv_tmp ⟨rfl, H.fr⟩
  refine go_R H ?_; clear H; intro w H
  by_cases ha : 0 ≤ x
  · by_cases hc : x ≤ 150
    · refine q_call (may_L 1 1 1 0 x (r := true) (by rw [vL_may]; simp; omega) _) ?_; rintro _ w1 ⟨rfl, hNo⟩; replace H := H.no hNo; clear hNo; refine ⟨_, rfl, ?_⟩
      refine go_R H ?_; clear H; intro w H
      refine q_beq true Try.underlying4 ?_
      refine go_R H ?_; clear H; intro w H
      exact ret1 rfl rv_tmp ⟨rfl, H.fr⟩
    · refine q_call (may_L 1 1 1 0 x (r := false) (by rw [vL_may]; simp; omega) _) ?_; rintro _ w1 ⟨rfl, hNo⟩; replace H := H.no hNo; clear hNo; refine ⟨_, rfl, ?_⟩
      refine go_R H ?_; clear H; intro w H
      refine q_beq true Try.underlying4 ?_
      refine go_R H ?_; clear H; intro w H
      exact ret1 rfl rv_tmp ⟨rfl, H.fr⟩
  · refine q_call (may_L 1 1 1 0 x (r := false) (by rw [vL_may]; simp; omega) _) ?_; rintro _ w1 ⟨rfl, hNo⟩; replace H := H.no hNo; clear hNo; refine ⟨_, rfl, ?_⟩
    refine go_R H ?_; clear H; intro w H
    refine q_beq true Try.underlying4 ?_
    refine go_R H ?_; clear H; intro w H
    exact ret1 rfl rv_tmp ⟨rfl, H.fr⟩
end Go.Proofs.Ytamkekmaahnbcaa
