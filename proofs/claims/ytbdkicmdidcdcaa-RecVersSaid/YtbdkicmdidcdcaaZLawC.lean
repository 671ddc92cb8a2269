/-
  The walk of RecEpochs.
-/
import Derived.Test.YtbdkicmdidcdcaaZLawB
import Derived.Test.YtbdkicmdidcdcaaZQ
namespace Go.Proofs.Ytbdkicmdidcdcaa
open Go.RowKit

def unuv : List UInt8 → Nat
  | [] => 0
  | b :: r => if b.toNat < 128 then b.toNat else b.toNat - 128 + 128 * unuv r
theorem unuv_uv (u : Nat) : u < 18446744073709551616 → unuv (uv u) = u := by
  induction u using Nat.strongRecOn with
  | ind u ih =>
    intro h
    by_cases hu : u < 128
    · rw [uv_small u hu]
      have : (UInt8.ofNat u).toNat = u := by rw [UInt8.toNat_ofNat']; omega
      simp [unuv, this, hu]
    · rw [uv_step u hu h]
      have h2 : (UInt8.ofNat (u % 128 + 128)).toNat = u % 128 + 128 := by rw [UInt8.toNat_ofNat']; omega
      have h3 := ih (u / 128) (by omega) (by omega)
      rw [unuv, h2, if_neg (by omega), h3]
      omega
theorem putN_inj {a b : Int} (ha : -9223372036854775808 ≤ a ∧ a ≤ 9223372036854775807) (hb : -9223372036854775808 ≤ b ∧ b ≤ 9223372036854775807) (h : putN a = putN b) : a = b := by
  have h1 := unuv_uv (zig a) (zig_lt a ha.1 ha.2)
  have h2 := unuv_uv (zig b) (zig_lt b hb.1 hb.2)
  unfold putN at h
  rw [h, h2] at h1
  unfold zig at h1
  split at h1 <;> split at h1 <;> omega
theorem Kv_zero : Kv Try.prog 42 (.agg (cat R.zero.ss).toArray) := Option.isSome_iff_exists.1 (by kernel_rfl)
theorem ropen_no {k1 k2 : SK} {b : List UInt8} (h : k1 ≠ k2) : ropen (mput ([] : List (SK × List UInt8)) k1 b) k2 = none := by
  have : mget [(k1, b)] k2 = none := if_neg h
  exact congrArg (·.bind rget) this
set_option maxRecDepth 100000 in
set_option maxHeartbeats 4000000 in
theorem RecEpochs_walk (id_ : Bool) (e n d : Int) (al : Bool) (W : World) : Calls Try.prog 13 #[.bool id_, .int .i64 e, .int .i64 n, .int .i64 d, .bool al] W fun e w' => e = .returned (.bool true) ∧ No W w' := by
  have H := St.nil (fun _ => False) W
  refine q_enter Try.func13 rfl rfl ?_
  refine go_R H ?_; clear H; intro w H
  refine q_call (begin9 _) ?_; rintro _ w1 ⟨rfl, hNo⟩; replace H := H.no hNo; clear hNo; refine ⟨_, rfl, ?_⟩
  refine go_R H ?_; clear H; intro w H
  by_cases h1 : e < 0
  · refine go_R H ?_; clear H; intro w H
    exact ret1 rfl rv_tmp ⟨rfl, H.fr⟩
  by_cases h2 : e > 1099511627776
  · refine go_R H ?_; clear H; intro w H
    exact ret1 rfl rv_tmp ⟨rfl, H.fr⟩
  by_cases h3 : n < 0
  · refine go_R H ?_; clear H; intro w H
    exact ret1 rfl rv_tmp ⟨rfl, H.fr⟩
  by_cases h4 : n > 1099511627776
  · refine go_R H ?_; clear H; intro w H
    exact ret1 rfl rv_tmp ⟨rfl, H.fr⟩
  by_cases h5 : d < 1
  · refine go_R H ?_; clear H; intro w H
    exact ret1 rfl rv_tmp ⟨rfl, H.fr⟩
  by_cases h6 : d > 1048576
  · refine go_R H ?_; clear H; intro w H
    exact ret1 rfl rv_tmp ⟨rfl, H.fr⟩
  cases id_
  · refine go_R H ?_; clear H; intro w H
    exact ret1 rfl rv_tmp ⟨rfl, H.fr⟩
  have B0 := BOk.new 1 (by omega)
  have SL := fun gx gt gs gm gl sv w => RSeal_ideal 0 gx gt gs gm gl 1 0 0 (.slice none 0 0) [] [] [] sv [115] e n (lab 4) rOne w B0 (by omega) (by decide) (by omega) (by omega) (by omega) (by omega) rOne_may 32 rOne_size
  obtain ⟨cb, hcb⟩ : ∃ x, tp 1 0 (32 + 16) = x := ⟨_, rfl⟩
  have hcl : cb.length = 48 := by rw [← hcb]; exact tp_length _ _ _
  rw [hcb] at SL
  dsimp only [En.v, En.ss] at SL
  refine go_R H ?_; clear H; intro w H
  refine q_tri H (TNew_any 1 _) ?_; clear H; rintro _ _ w ⟨gt, rfl, rfl⟩ H
  refine q_tri H (BNew_ideal ⟨gt, 0, none⟩ _) ?_; clear H; rintro _ _ w ⟨gx, gs, gm, gl, rfl, rfl⟩ H
  replace H : St _ _ (BXl gx gt gs gm gl 1 0 0 (.slice none 0 0) [] [] [] ++ []) _ := H.sub (by repeat (first | exact Sub.nil | apply Sub.cons | exact Take.z | apply Take.s))
  refine go_R H ?_; clear H; intro w H
  refine q_constB [115] H ?_; clear H; intro ga w H
  refine go_R H ?_; clear H; intro w H
  refine q_markC (g := ga) H ?_; clear H; intro w H
  refine go_R H ?_; clear H; intro w H
  refine q_buildB1 (b := 4) ?_
  change LW _ _ _ _ _ (upd _ _ (.agg (bs (lab 4).l).toArray)) _
  refine q_buildR rOne.ss ?_
  refine q_triR H (SL gx gt gs gm gl (.slice (some ⟨ga, 0, none⟩) 1 1) _) ?_ (hr := Srcs.cons (Src.cell (by (repeat (first | exact Take.z | apply Take.s)); done) rfl (by omega)) Srcs.nil); clear H; rintro _ _ w ⟨i1, v1, B1, rfl, rfl⟩ H
  obtain ⟨pd, hpd⟩ : ∃ x, padB 32 (rbytes rOne) = x := ⟨_, rfl⟩
  rw [hpd] at B1 H
  refine go_R H ?_; clear H; intro w H
  refine q_alloc H ?_; clear H; intro g13 w H
  refine go_R H ?_; clear H; intro w H
  cases al
  · have OP := fun sv w => ROpen_ideal 1 gx gt gs gm gl 1 i1 48 v1 _ [] [] sv [115] (e + d) n (lab 4) cb w B1 (by decide) (by omega) (by omega) (by omega) (by omega) (by omega)
    have hno := ropen_no (k1 := ((keysOf [115] e).seal_.l, n, (lab 4).l ++ putN e, cb)) (k2 := ((keysOf [115] (e + d)).seal_.l, n, (lab 4).l ++ putN (e + d), cb)) (b := pd) (fun h => by
      injection h with _ h; injection h with _ h; injection h with h _
      have := putN_inj (by omega) (by omega) (List.append_cancel_left h)
      omega)
    refine go_R H ?_; clear H; intro w H
    refine q_constB [115] H ?_; clear H; intro gd w H
    refine go_R H ?_; clear H; intro w H
    refine q_markC (g := gd) H ?_; clear H; intro w H
    refine go_R H ?_; clear H; intro w H
    refine q_buildB1 (b := 4) ?_
    change LW _ _ _ _ _ (upd _ _ (.agg (bs (lab 4).l).toArray)) _
    refine go_R H ?_; clear H; intro w H
    refine q_triR H (OP (.slice (some ⟨gd, 0, none⟩) 1 1) _) ?_ (hr := Srcs.cons (Src.cell (by (repeat (first | exact Take.z | apply Take.s)); done) rfl (by omega)) Srcs.nil); clear H; rintro _ _ w ⟨(⟨h, rfl⟩ | ⟨r, h, _⟩), rfl⟩ H
    rotate_left
    · rw [hno] at h; cases h
    refine go_R H ?_; clear H; intro w H
    refine q_alloc H ?_; clear H; intro g15 w H
    refine go_R H ?_; clear H; intro w H
    refine q_buildR R.zero.ss ?_
    refine q_weq_t Kv_zero Kv_zero rfl ?_
    refine go_R H ?_; clear H; intro w H
    exact ret1 rfl rv_tmp ⟨rfl, H.fr⟩
  · have OP := fun sv w => ROpen_ideal 1 gx gt gs gm gl 1 i1 48 v1 _ [] [] sv [115] e (n + d) (lab 4) cb w B1 (by decide) (by omega) (by omega) (by omega) (by omega) (by omega)
    have hno := ropen_no (k1 := ((keysOf [115] e).seal_.l, n, (lab 4).l ++ putN e, cb)) (k2 := ((keysOf [115] e).seal_.l, n + d, (lab 4).l ++ putN e, cb)) (b := pd) (fun h => by
      injection h with _ h; injection h with h _
      omega)
    refine go_R H ?_; clear H; intro w H
    refine q_constB [115] H ?_; clear H; intro gd w H
    refine go_R H ?_; clear H; intro w H
    refine q_markC (g := gd) H ?_; clear H; intro w H
    refine go_R H ?_; clear H; intro w H
    refine q_buildB1 (b := 4) ?_
    change LW _ _ _ _ _ (upd _ _ (.agg (bs (lab 4).l).toArray)) _
    refine go_R H ?_; clear H; intro w H
    refine q_triR H (OP (.slice (some ⟨gd, 0, none⟩) 1 1) _) ?_ (hr := Srcs.cons (Src.cell (by (repeat (first | exact Take.z | apply Take.s)); done) rfl (by omega)) Srcs.nil); clear H; rintro _ _ w ⟨(⟨h, rfl⟩ | ⟨r, h, _⟩), rfl⟩ H
    rotate_left
    · rw [hno] at h; cases h
    refine go_R H ?_; clear H; intro w H
    refine q_alloc H ?_; clear H; intro g15 w H
    refine go_R H ?_; clear H; intro w H
    refine q_buildR R.zero.ss ?_
    refine q_weq_t Kv_zero Kv_zero rfl ?_
    refine go_R H ?_; clear H; intro w H
    exact ret1 rfl rv_tmp ⟨rfl, H.fr⟩
end Go.Proofs.Ytbdkicmdidcdcaa
