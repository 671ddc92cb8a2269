/-
  The walk of PadAlike.
-/
import Derived.Test.YtbdkicmdidcdcaaZLawA
import Derived.Test.YtbdkicmdidcdcaaZQ
namespace Go.Proofs.Ytbdkicmdidcdcaa
open Go.RowKit

section
variable {P : Program} {n : Nat} {Q : Post} {ρ : Env} {w : World} {ops : Array Oper} {rest : List Oper} {d : Nat} {T : TypeId} {p : String} {af : Array Edge} {gd : Option (Nat × Bool)}
theorem x_beqK {xt yt : TypeId} {x y : Operand} {a b : Bool} (r : Bool) {dst : Option Nat} (ht : P.underlying xt = some .bool) (hx : ev ρ x = .bool a := by rfl) (hy : ev ρ y = .bool b := by rfl) (hr : (a == b) = r := by rfl) :
    (execOp (ev ρ) ⟨dst, .binOp .eql xt x y yt, T, p, af, gd⟩).run P w = .ok (.value (.bool r)) w := by
  subst hr
  simp [execOp, hx, hy, eqGuard, run_eql_bool w xt a b ht]
theorem q_beqK {xt yt : TypeId} {x y : Operand} {a b : Bool} (r : Bool) (ht : P.underlying xt = some .bool) (h : LW P n ops Q rest (upd ρ d (.bool r)) w) (hx : ev ρ x = .bool a := by rfl) (hy : ev ρ y = .bool b := by rfl) (hr : (a == b) = r := by rfl) (hd : Nat.blt d n = true := by rfl) (hw : Wanted ops ρ gd := by first | exact .none | exact .some ⟨_, rfl, rfl⟩) :
    LW P n ops Q (⟨some d, .binOp .eql xt x y yt, T, p, af, gd⟩ :: rest) ρ w := lw_value hw hd (x_beqK r ht hx hy hr) h
end
theorem begin9 (w : World) : Calls Try.prog 14 #[] w fun e w' => e = .returned (.bool true) ∧ No w w' := begun9_any w
theorem big {a : Nat} (h : psize a = 0) : 2046 < a := by
  rcases psize_cases a with ⟨_, h1⟩ | ⟨sz, h1, _, _, h2⟩
  · exact h1
  · rw [h1] at h; omega
set_option maxRecDepth 100000 in
set_option maxHeartbeats 4000000 in
theorem PadAlike_walk (n m : Int) (W : World) : Calls Try.prog 6 #[.int .i64 n, .int .i64 m] W fun e w' => e = .returned (.bool true) ∧ No W w' := by
  have H := St.nil (fun _ => False) W
  refine q_enter Try.func6 rfl rfl ?_
  refine go_R H ?_; clear H; intro w H
  refine q_call (begin9 _) ?_; rintro _ w1 ⟨rfl, hNo⟩; replace H := H.no hNo; clear hNo; refine ⟨_, rfl, ?_⟩
  refine go_R H ?_; clear H; intro w H
  by_cases h1 : n < 0
  · refine go_R H ?_; clear H; intro w H
    exact ret1 rfl rv_tmp ⟨rfl, H.fr⟩
  by_cases h2 : n > 2100
  · refine go_R H ?_; clear H; intro w H
    exact ret1 rfl rv_tmp ⟨rfl, H.fr⟩
  by_cases h3 : m < 0
  · refine go_R H ?_; clear H; intro w H
    exact ret1 rfl rv_tmp ⟨rfl, H.fr⟩
  by_cases h4 : m > 2100
  · refine go_R H ?_; clear H; intro w H
    exact ret1 rfl rv_tmp ⟨rfl, H.fr⟩
  obtain ⟨a, rfl⟩ := Int.eq_ofNat_of_zero_le (by omega : 0 ≤ n)
  obtain ⟨b, rfl⟩ := Int.eq_ofNat_of_zero_le (by omega : 0 ≤ m)
  have PA := fun v w (h : RB w v (List.replicate a 0)) => Pad_any v (List.replicate a 0) w h (by rw [List.length_replicate]; omega)
  have PB := fun v w (h : RB w v (List.replicate b 0)) => Pad_any v (List.replicate b 0) w h (by rw [List.length_replicate]; omega)
  have SA := fun w => Size_any (a : Int) w
  have SB := fun w => Size_any (b : Int) w
  refine go_R H ?_; clear H; intro w H
  refine q_makeB (m := a) H ?_; clear H; intro ga w H
  replace H := St.asB H a (by rw [List.length_replicate]) (by omega)
  refine q_tri H (PA _ _ (H.rbB .z)) ?_; clear H; rintro _ _ w (⟨e1, rfl, rfl⟩ | ⟨s1, va, e1, x1, y1, z1, rfl, ⟨pa, rfl⟩, rfl⟩) H <;> rw [List.length_replicate] at e1
  · have ha0 := big e1
    rw [e1] at SA
    refine go_R H ?_; clear H; intro w H
    refine q_makeB (m := b) H ?_; clear H; intro gb w H
    replace H := St.asB H b (by rw [List.length_replicate]) (by omega)
    refine q_tri H (PB _ _ (H.rbB .z)) ?_; clear H; rintro _ _ w (⟨e2, rfl, rfl⟩ | ⟨s2, vb, e2, x2, y2, z2, rfl, ⟨pb, rfl⟩, rfl⟩) H <;> rw [List.length_replicate] at e2
    · have hb0 := big e2
      rw [e2] at SB
      refine go_R H ?_; clear H; intro w H
      refine q_call (SA _) ?_; rintro _ w1 ⟨rfl, hNo⟩; replace H := H.no hNo; clear hNo; refine ⟨_, rfl, ?_⟩
      refine go_R H ?_; clear H; intro w H
      refine q_call (SB _) ?_; rintro _ w1 ⟨rfl, hNo⟩; replace H := H.no hNo; clear hNo; refine ⟨_, rfl, ?_⟩
      refine go_R H ?_; clear H; intro w H
      refine q_beqK true Try.underlying4 ?_
      refine go_R H ?_; clear H; intro w H
      refine q_beqK true Try.underlying4 ?_
      refine go_R H ?_; clear H; intro w H
      refine q_beqK true Try.underlying4 ?_
      refine go_R H ?_; clear H; intro w H
      exact ret1 rfl rv_tmp ⟨rfl, H.fr⟩
    · rw [List.length_replicate] at x2
      rw [e2] at SB
      refine go_R H ?_; clear H; intro w H
      refine q_call (SA _) ?_; rintro _ w1 ⟨rfl, hNo⟩; replace H := H.no hNo; clear hNo; refine ⟨_, rfl, ?_⟩
      refine go_R H ?_; clear H; intro w H
      refine q_call (SB _) ?_; rintro _ w1 ⟨rfl, hNo⟩; replace H := H.no hNo; clear hNo; refine ⟨_, rfl, ?_⟩
      refine go_R H ?_; clear H; intro w H
      refine q_beqK true Try.underlying4 ?_
      refine go_R H ?_; clear H; intro w H
      refine q_beqK true Try.underlying4 ?_
      refine go_R H ?_; clear H; intro w H
      refine q_beqK true Try.underlying4 ?_
      refine go_R H ?_; clear H; intro w H
      exact ret1 rfl rv_tmp ⟨rfl, H.fr⟩
  · rw [List.length_replicate] at x1
    rw [e1] at SA
    refine go_R H ?_; clear H; intro w H
    refine q_makeB (m := b) H ?_; clear H; intro gb w H
    replace H := St.asB H b (by rw [List.length_replicate]) (by omega)
    refine q_tri H (PB _ _ (H.rbB .z)) ?_; clear H; rintro _ _ w (⟨e2, rfl, rfl⟩ | ⟨s2, vb, e2, x2, y2, z2, rfl, ⟨pb, rfl⟩, rfl⟩) H <;> rw [List.length_replicate] at e2
    · have hb0 := big e2
      rw [e2] at SB
      refine go_R H ?_; clear H; intro w H
      refine q_call (SA _) ?_; rintro _ w1 ⟨rfl, hNo⟩; replace H := H.no hNo; clear hNo; refine ⟨_, rfl, ?_⟩
      refine go_R H ?_; clear H; intro w H
      refine q_call (SB _) ?_; rintro _ w1 ⟨rfl, hNo⟩; replace H := H.no hNo; clear hNo; refine ⟨_, rfl, ?_⟩
      refine go_R H ?_; clear H; intro w H
      refine q_beqK true Try.underlying4 ?_
      refine go_R H ?_; clear H; intro w H
      refine q_beqK true Try.underlying4 ?_
      refine go_R H ?_; clear H; intro w H
      refine q_beqK true Try.underlying4 ?_
      refine go_R H ?_; clear H; intro w H
      exact ret1 rfl rv_tmp ⟨rfl, H.fr⟩
    · rw [List.length_replicate] at x2
      rw [e2] at SB
      by_cases hss : s1 = s2
      · subst hss
        refine go_R H ?_; clear H; intro w H
        refine q_call (SA _) ?_; rintro _ w1 ⟨rfl, hNo⟩; replace H := H.no hNo; clear hNo; refine ⟨_, rfl, ?_⟩
        refine go_R H ?_; clear H; intro w H
        refine q_call (SB _) ?_; rintro _ w1 ⟨rfl, hNo⟩; replace H := H.no hNo; clear hNo; refine ⟨_, rfl, ?_⟩
        refine go_R H ?_; clear H; intro w H
        refine q_beqK true Try.underlying4 ?_
        refine go_R H ?_; clear H; intro w H
        refine q_beqK true Try.underlying4 ?_
        refine go_R H ?_; clear H; intro w H
        refine q_beqK true Try.underlying4 ?_
        refine go_R H ?_; clear H; intro w H
        exact ret1 rfl rv_tmp ⟨rfl, H.fr⟩
      · refine go_R H ?_; clear H; intro w H
        refine q_call (SA _) ?_; rintro _ w1 ⟨rfl, hNo⟩; replace H := H.no hNo; clear hNo; refine ⟨_, rfl, ?_⟩
        refine go_R H ?_; clear H; intro w H
        refine q_call (SB _) ?_; rintro _ w1 ⟨rfl, hNo⟩; replace H := H.no hNo; clear hNo; refine ⟨_, rfl, ?_⟩
        refine go_R H ?_; clear H; intro w H
        refine q_beqK true Try.underlying4 ?_
        refine go_R H ?_; clear H; intro w H
        refine q_beqK true Try.underlying4 ?_
        refine go_R H ?_; clear H; intro w H
        refine q_beqK true Try.underlying4 ?_
        refine go_R H ?_; clear H; intro w H
        exact ret1 rfl rv_tmp ⟨rfl, H.fr⟩
end Go.Proofs.Ytbdkicmdidcdcaa
