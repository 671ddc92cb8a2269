/-
  The walk of RecVers.
-/
import Derived.Test.YtbdkicmdidcdcaaZLawC
import Derived.Test.YtbdkicmdidcdcaaZQ
namespace Go.Proofs.Ytbdkicmdidcdcaa
open Go.RowKit

set_option maxRecDepth 100000 in
set_option maxHeartbeats 4000000 in
theorem RecVers_walk (ver : Int) (gone : Bool) (m : Int) (W : World) : Calls Try.prog 12 #[.int .i64 ver, .bool gone, .int .i64 m] W fun e w' => e = .returned (.bool true) ∧ No W w' := by
  have H := St.nil (fun _ => False) W
  refine q_enter Try.func12 rfl rfl ?_
  refine go_R H ?_; clear H; intro w H
  refine q_call (begin9 _) ?_; rintro _ w1 ⟨rfl, hNo⟩; replace H := H.no hNo; clear hNo; refine ⟨_, rfl, ?_⟩
  refine go_R H ?_; clear H; intro w H
  by_cases h1 : m < 0
  · refine go_R H ?_; clear H; intro w H
    exact ret1 rfl rv_tmp ⟨rfl, H.fr⟩
  by_cases h2 : m > 1005
  · refine go_R H ?_; clear H; intro w H
    exact ret1 rfl rv_tmp ⟨rfl, H.fr⟩
  obtain ⟨a, rfl⟩ := Int.eq_ofNat_of_zero_le (by omega : 0 ≤ m)
  have hal : (List.replicate a (0 : UInt8)).length = a := List.length_replicate
  have hrm : rmay ⟨ver, gone, List.replicate a 0⟩ ↔ 1 ≤ ver ∧ ver ≤ 1099511627776 ∧ a ≤ 1000 ∧ (gone = true → a = 0) := by
    constructor
    · intro h
      have h1 := h.lo; have h2 := h.hi; have h3 := h.len; have h4 := h.gone
      dsimp only at h1 h2 h3 h4
      rw [hal] at h3
      exact ⟨h1, h2, h3, fun g => by have := h4 g; rw [this] at hal; simpa using hal.symm⟩
    · rintro ⟨h1, h2, h3, h4⟩
      exact ⟨h1, h2, by dsimp only; omega, fun g => by have := h4 g; subst this; rfl⟩
  have PT := fun w => Put_rec ⟨ver, gone, List.replicate a 0⟩ w
  have MT := fun (h : rmay ⟨ver, gone, List.replicate a 0⟩) w => RMay_t h w
  have MF := fun (h : ¬ rmay ⟨ver, gone, List.replicate a 0⟩) w => RMay_f h w
  obtain ⟨l, hl⟩ : ∃ x, List.replicate a (0 : UInt8) = x := ⟨_, rfl⟩
  refine go_R H ?_; clear H; intro w H
  refine q_makeB (m := a) H ?_; clear H; intro ga w H
  rw [hl] at H hal hrm PT MT MF
  replace H := St.asB H a (by omega) (by omega)
  refine q_str (H.rbB .z) ?_
  refine q_buildR [[.int .i64 ver], [.bool gone], [.string (str l)]] ?_
  refine go_R H ?_; clear H; intro w H
  refine q_alloc H ?_; clear H; intro g8 w H
  refine go_R H ?_; clear H; intro w H
  by_cases c1 : 1 ≤ ver
  rotate_left
  · have hm : ¬ rmay ⟨ver, gone, l⟩ := fun h => by have := hrm.1 h; omega
    refine go_R H ?_; clear H; intro w H
    refine q_tri H (PT _) ?_; clear H; rintro _ _ w (⟨_, rfl, rfl⟩ | ⟨_, _, h, _⟩) H
    rotate_left
    · exact (hm h).elim
    refine go_R H ?_; clear H; intro w H
    refine q_call (MF hm _) ?_; rintro _ w1 ⟨rfl, hNo⟩; replace H := H.no hNo; clear hNo; refine ⟨_, rfl, ?_⟩
    refine go_R H ?_; clear H; intro w H
    refine q_beqK true Try.underlying4 ?_
    refine go_R H ?_; clear H; intro w H
    refine q_beqK true Try.underlying4 ?_
    refine go_R H ?_; clear H; intro w H
    refine q_beqK true Try.underlying4 ?_
    refine go_R H ?_; clear H; intro w H
    exact ret1 rfl rv_tmp ⟨rfl, H.fr⟩
  by_cases c2 : ver ≤ 1099511627776
  rotate_left
  · have hm : ¬ rmay ⟨ver, gone, l⟩ := fun h => by have := hrm.1 h; omega
    refine go_R H ?_; clear H; intro w H
    refine q_tri H (PT _) ?_; clear H; rintro _ _ w (⟨_, rfl, rfl⟩ | ⟨_, _, h, _⟩) H
    rotate_left
    · exact (hm h).elim
    refine go_R H ?_; clear H; intro w H
    refine q_call (MF hm _) ?_; rintro _ w1 ⟨rfl, hNo⟩; replace H := H.no hNo; clear hNo; refine ⟨_, rfl, ?_⟩
    refine go_R H ?_; clear H; intro w H
    refine q_beqK true Try.underlying4 ?_
    refine go_R H ?_; clear H; intro w H
    refine q_beqK true Try.underlying4 ?_
    refine go_R H ?_; clear H; intro w H
    refine q_beqK true Try.underlying4 ?_
    refine go_R H ?_; clear H; intro w H
    exact ret1 rfl rv_tmp ⟨rfl, H.fr⟩
  by_cases c3 : a ≤ 1000
  rotate_left
  · have hm : ¬ rmay ⟨ver, gone, l⟩ := fun h => by have := hrm.1 h; omega
    refine go_R H ?_; clear H; intro w H
    refine q_tri H (PT _) ?_; clear H; rintro _ _ w (⟨_, rfl, rfl⟩ | ⟨_, _, h, _⟩) H
    rotate_left
    · exact (hm h).elim
    refine go_R H ?_; clear H; intro w H
    refine q_call (MF hm _) ?_; rintro _ w1 ⟨rfl, hNo⟩; replace H := H.no hNo; clear hNo; refine ⟨_, rfl, ?_⟩
    refine go_R H ?_; clear H; intro w H
    refine q_beqK true Try.underlying4 ?_
    refine go_R H ?_; clear H; intro w H
    refine q_beqK true Try.underlying4 ?_
    refine go_R H ?_; clear H; intro w H
    refine q_beqK true Try.underlying4 ?_
    refine go_R H ?_; clear H; intro w H
    exact ret1 rfl rv_tmp ⟨rfl, H.fr⟩
  cases gone
  · have hm : rmay ⟨ver, false, l⟩ := hrm.2 ⟨c1, c2, c3, fun h => by cases h⟩
    refine go_R H ?_; clear H; intro w H
    refine q_tri H (PT _) ?_; clear H; rintro _ _ w (⟨h, _⟩ | ⟨sz', v', _, h0, x1, x2, x3, rfl, ⟨a', rfl⟩, rfl⟩) H
    · exact (h hm).elim
    refine go_R H ?_; clear H; intro w H
    refine q_call (MT hm _) ?_; rintro _ w1 ⟨rfl, hNo⟩; replace H := H.no hNo; clear hNo; refine ⟨_, rfl, ?_⟩
    refine go_R H ?_; clear H; intro w H
    refine q_beqK true Try.underlying4 ?_
    refine go_R H ?_; clear H; intro w H
    refine q_beqK true Try.underlying4 ?_
    refine go_R H ?_; clear H; intro w H
    refine q_beqK true Try.underlying4 ?_
    refine go_R H ?_; clear H; intro w H
    exact ret1 rfl rv_tmp ⟨rfl, H.fr⟩
  by_cases c4 : a = 0
  · have hm : rmay ⟨ver, true, l⟩ := hrm.2 ⟨c1, c2, c3, fun h => c4⟩
    refine go_R H ?_; clear H; intro w H
    refine q_tri H (PT _) ?_; clear H; rintro _ _ w (⟨h, _⟩ | ⟨sz', v', _, h0, x1, x2, x3, rfl, ⟨a', rfl⟩, rfl⟩) H
    · exact (h hm).elim
    refine go_R H ?_; clear H; intro w H
    refine q_call (MT hm _) ?_; rintro _ w1 ⟨rfl, hNo⟩; replace H := H.no hNo; clear hNo; refine ⟨_, rfl, ?_⟩
    refine go_R H ?_; clear H; intro w H
    refine q_beqK true Try.underlying4 ?_
    refine go_R H ?_; clear H; intro w H
    refine q_beqK true Try.underlying4 ?_
    refine go_R H ?_; clear H; intro w H
    refine q_beqK true Try.underlying4 ?_
    refine go_R H ?_; clear H; intro w H
    exact ret1 rfl rv_tmp ⟨rfl, H.fr⟩
  · have hm : ¬ rmay ⟨ver, true, l⟩ := fun h => by have := (hrm.1 h).2.2.2 rfl; omega
    refine go_R H ?_; clear H; intro w H
    refine q_tri H (PT _) ?_; clear H; rintro _ _ w (⟨_, rfl, rfl⟩ | ⟨_, _, h, _⟩) H
    rotate_left
    · exact (hm h).elim
    refine go_R H ?_; clear H; intro w H
    refine q_call (MF hm _) ?_; rintro _ w1 ⟨rfl, hNo⟩; replace H := H.no hNo; clear hNo; refine ⟨_, rfl, ?_⟩
    refine go_R H ?_; clear H; intro w H
    refine q_beqK true Try.underlying4 ?_
    refine go_R H ?_; clear H; intro w H
    refine q_beqK true Try.underlying4 ?_
    refine go_R H ?_; clear H; intro w H
    refine q_beqK true Try.underlying4 ?_
    refine go_R H ?_; clear H; intro w H
    exact ret1 rfl rv_tmp ⟨rfl, H.fr⟩
end Go.Proofs.Ytbdkicmdidcdcaa
