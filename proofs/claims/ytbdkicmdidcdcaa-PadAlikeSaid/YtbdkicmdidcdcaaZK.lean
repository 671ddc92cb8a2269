/-
  box.bytes. aead: fill, length. The walk of poly.Tag. aead: mark. aead: Seal, Open. The beginning of layer 4: known answers.
-/
import Derived.Test.YtbdkicmdidcdcaaZH
import Derived.Test.YtbdkicmdidcdcaaZJ
import Derived.Test.YtbdkicmdidcdcaaZI
import Derived.Test.YtbdkicmdidcdcaaZF
import Derived.Test.YtbdkicmdidcdcaaZE
import Derived.Test.YtbdkicmdidcdcaaZD
namespace Go.Proofs.Ytbdkicmdidcdcaa
open Go.RowKit

def nby (k : Int) (s : Nat) : UInt8 := UInt8.ofNat ((k.fdiv (2 ^ s)) % 256).toNat
theorem nby_conv (k : Int) (s : Nat) : IntKind.u8.wrap (k.fdiv (2 ^ s)) = by8 (nby k s) := by
  rw [IntKind.wrap_u8']
  unfold nby by8
  rw [UInt8.toNat_ofNat']
  omega
/-- A nonce's bytes. -/
def nonce (k : Int) : List UInt8 := [0, 0, 0, 0, nby k 56, nby k 48, nby k 40, nby k 32, nby k 24, nby k 16, nby k 8, nby k 0]
set_option maxRecDepth 100000 in
theorem bbytes_any (k : Int) (w : World) :
    Calls Try.prog 54 #[.int .i64 k] w fun e w' => e = .returned (.agg (bs (nonce k)).toArray) ∧ No w w' := by
  have H := St.nil (fun _ => False) w
  refine q_enter Try.func54 rfl rfl ?_
  refine go_W H ?_; clear H; intro w H
  refine q_alloc H ?_; clear H; intro g1 w H
  refine go_W H ?_; clear H; intro w H
  refine q_alloc H ?_; clear H; intro g2 w H
  refine go_W H ?_; clear H; intro w H
  refine q_rounds 9 ?_
  repeat (first | (refine g_lw ?_; (first | refine q_move ?_ | refine q_assign ?_ | refine q_nil ?_ | refine q_conv ?_ (nby_conv _ _) | (refine g_bin ?_; (first | refine q_add64 ?_ | refine q_sub64 ?_ | refine q_mul64 ?_ | refine q_quo64 ?_ | refine q_rem64 ?_ | refine q_shr ?_ | refine q_nil_eq_f ?_ | refine q_nil_eq_t ?_ | refine q_nil_ne_t ?_ | refine q_nil_ne_f ?_ | refine q_snil_eq_f ?_ | refine q_snil_eq_t ?_ | refine q_snil_ne_t ?_ | refine q_snil_ne_f ?_ | refine q_xor8 ?_ | refine q_lt_t ?_ | refine q_lt_f ?_ | refine q_le_t ?_ | refine q_le_f ?_ | refine q_gt_t ?_ | refine q_gt_f ?_ | refine q_ge_t ?_ | refine q_ge_f ?_ | refine q_eq_t ?_ | refine q_eq_f ?_ | refine q_ne_t ?_ | refine q_ne_f ?_ | refine q_steq_t ?_ | refine q_steq_f ?_ | refine q_stne_t ?_ | refine q_stne_f ?_ | refine q_sadd ?_)) | (refine g_load ?_; (first | refine q_load H ?_ | refine q_loadW H ?_ | refine q_loadB H ?_)) | (refine g_store ?_; (first | (refine q_storeB H ?_; clear H; intro w H) | (refine q_store H ?_; clear H; intro w H) | (refine q_storeW H ?_; clear H; intro w H))) | refine q_nilCheck ?_ | refine q_field ?_ | refine q_fieldO ?_ | refine q_idxA ?_ | refine q_idxS ?_ | refine q_pick_t ?_ | refine q_pick_f ?_ | refine q_off ?_ | refine q_off_none ?_ | refine q_offU ?_ | refine q_offU_none ?_ | refine q_extract ?_ | refine q_not_t ?_ | refine q_not_f ?_ | refine q_partC ?_ | (refine g_conv ?_; (first | refine q_conv64 ?_ | refine q_u8u64 ?_)) | (refine g_call ?_; (first | refine q_len ?_ | refine q_lenStr ?_)) | (refine g_slice ?_; (first | refine q_sliceArr ?_ | refine q_arrTo ?_ | refine q_arrFrom ?_)))) | (refine g_cw ?_; (first | refine q_seq ?_ | refine q_region ?_ | refine q_block ?_ | refine q_cond_true rfl ?_ | refine q_cond_false rfl ?_ | refine q_skip ?_ | refine q_exit ?_ | refine q_ret ?_)) | refine q_then ?_ | refine q_in ?_ | refine q_in_hit ?_ | refine q_in_miss ?_ | refine q_in_ret ?_ | refine q_then_exit ?_ | refine q_then_ret ?_ | refine q_rnd ?_)
  exact ret1 rfl (rv_agg H) ⟨rfl, H.fr⟩
end Go.Proofs.Ytbdkicmdidcdcaa
namespace Go.Proofs.Ytbdkicmdidcdcaa
open Go.RowKit

def pad16 (l : List UInt8) : List UInt8 := l ++ List.replicate ((16 - l.length % 16) % 16) 0
def le8 (n : Nat) : List UInt8 := (List.range 8).map fun i => UInt8.ofNat (n / 2 ^ (8 * i))
theorem pad16_length (l : List UInt8) : (pad16 l).length ≤ l.length + 16 := by unfold pad16; simp; omega

set_option maxRecDepth 100000 in
theorem fill_any (v : Value) (l : List UInt8) (w : World) (hl : l.length ≤ 10000000) : Tri Try.prog 77 [v] [bsl v l] w fun v' L => L = [bsl v' (pad16 l)] := by
  refine Tri.of fun F H => ?_
  refine q_enter Try.func77 rfl rfl ?_
  obtain ⟨va, vc, rfl⟩ := RB.val (H.rbB .z)
  refine go_W H ?_; clear H; intro w H
  refine q_app0 ((16 - l.length % 16) % 16) 9 H ?_
  intro v' w' H _
  refine go_W H ?_; clear H; intro w H
  exact ret1 rfl rv_tmp ⟨_, _, rfl, rfl, H⟩
set_option maxRecDepth 100000 in
set_option maxHeartbeats 400000 in
theorem length_any (v : Value) (l : List UInt8) (n : Nat) (w : World) (hl : l.length ≤ 10000000) (hn : n ≤ 9223372036854775807) : Tri Try.prog 79 [v, .int .i64 n] [bsl v l] w fun v' L => L = [bsl v' (l ++ le8 n)] := by
  refine Tri.of fun F H => ?_
  refine q_enter Try.func79 rfl rfl ?_
  refine go_W H ?_; clear H; intro w H
  refine q_rounds 9 ?_
  repeat (first | (refine g_lw ?_; (first | refine q_move ?_ | refine q_assign ?_ | refine q_nil ?_ | refine q_convU ?_ | refine q_conv ?_ (pby _ _) | (refine q_side1 H ?_; clear H; intro g w H) | (refine q_appT H ?_; clear H; intro v w H) | (refine g_bin ?_; (first | refine q_add64 ?_ | refine q_sub64 ?_ | refine q_mul64 ?_ | refine q_quo64 ?_ | refine q_rem64 ?_ | refine q_shr ?_ | refine q_nil_eq_f ?_ | refine q_nil_eq_t ?_ | refine q_nil_ne_t ?_ | refine q_nil_ne_f ?_ | refine q_snil_eq_f ?_ | refine q_snil_eq_t ?_ | refine q_snil_ne_t ?_ | refine q_snil_ne_f ?_ | refine q_xor8 ?_ | refine q_lt_t ?_ | refine q_lt_f ?_ | refine q_le_t ?_ | refine q_le_f ?_ | refine q_gt_t ?_ | refine q_gt_f ?_ | refine q_ge_t ?_ | refine q_ge_f ?_ | refine q_eq_t ?_ | refine q_eq_f ?_ | refine q_ne_t ?_ | refine q_ne_f ?_ | refine q_steq_t ?_ | refine q_steq_f ?_ | refine q_stne_t ?_ | refine q_stne_f ?_ | refine q_sadd ?_)) | (refine g_load ?_; (first | refine q_load H ?_ | refine q_loadW H ?_ | refine q_loadB H ?_)) | (refine g_store ?_; (first | (refine q_storeB H ?_; clear H; intro w H) | (refine q_store H ?_; clear H; intro w H) | (refine q_storeW H ?_; clear H; intro w H))) | refine q_nilCheck ?_ | refine q_field ?_ | refine q_fieldO ?_ | refine q_idxA ?_ | refine q_idxS ?_ | refine q_pick_t ?_ | refine q_pick_f ?_ | refine q_off ?_ | refine q_off_none ?_ | refine q_offU ?_ | refine q_offU_none ?_ | refine q_extract ?_ | refine q_not_t ?_ | refine q_not_f ?_ | refine q_partC ?_ | (refine g_conv ?_; (first | refine q_conv64 ?_ | refine q_u8u64 ?_)) | (refine g_call ?_; (first | refine q_len ?_ | refine q_lenStr ?_)) | (refine g_slice ?_; (first | refine q_sliceArr ?_ | refine q_arrTo ?_ | refine q_arrFrom ?_)))) | (refine g_cw ?_; (first | refine q_seq ?_ | refine q_region ?_ | refine q_block ?_ | refine q_cond_true rfl ?_ | refine q_cond_false rfl ?_ | refine q_skip ?_ | refine q_exit ?_ | refine q_ret ?_)) | refine q_then ?_ | refine q_in ?_ | refine q_in_hit ?_ | refine q_in_miss ?_ | refine q_in_ret ?_ | refine q_then_exit ?_ | refine q_then_ret ?_ | refine q_rnd ?_)
  simp only [List.append_assoc, List.cons_append, List.nil_append] at H
  exact ret1 rfl rv_tmp ⟨_, _, rfl, rfl, H⟩
end Go.Proofs.Ytbdkicmdidcdcaa
namespace Go.Proofs.Ytbdkicmdidcdcaa
open Go.RowKit

def N3.cl (n : N3) : List Value := [.int .u64 (n.a : Int), .int .u64 (n.b : Int), .int .u64 (n.c : Int)]
theorem N3.cl_one (n : N3) : ∀ u ∈ n.cl, u.oneCell' = true := by simp [N3.cl, Value.oneCell']
theorem pfront_eq (b : List UInt8) : (over (List.replicate 17 0) 0 16 b).set (min b.length 16) 1 = pfront b := by
  have h : over (List.replicate 17 0) 0 16 b = b.take 16 ++ List.replicate (17 - min b.length 16) 0 := by
    unfold over
    rw [List.take_zero, List.nil_append, Nat.zero_add, List.drop_replicate]
  have hl : (b.take 16).length = min b.length 16 := by simp [Nat.min_comm]
  rw [h, pfront, ← hl, List.set_append_right _ _ (Nat.le_refl _), Nat.sub_self]
  congr 1
  rw [hl, show 17 - min b.length 16 = (16 - b.length) + 1 by omega, List.replicate_succ, List.set_cons_zero]
theorem drop_round (b : List UInt8) (j : Nat) : (b.drop (16 * j)).drop (min (b.drop (16 * j)).length 16) = b.drop (16 * (j + 1)) := by
  by_cases h : (b.drop (16 * j)).length ≤ 16
  · have h' := h
    rw [List.length_drop] at h'
    rw [Nat.min_eq_left h, List.drop_of_length_le (by simp), List.drop_of_length_le (by omega)]
  · rw [Nat.min_eq_right (by omega), List.drop_drop]
    congr 1

theorem rdN_take (l : List UInt8) (m : Nat) : ∀ i, i ≤ 16 → rdN (l.take 16) m i = rdN l m i
  | 0, _ => rfl
  | i + 1, h => by
    have ih := rdN_take l m i (by omega)
    have hg : (l.take 16).getD i 0 = l.getD i 0 := take_getD l 16 i (by omega)
    unfold rdN
    rw [ih, hg]
set_option maxRecDepth 100000 in
set_option maxHeartbeats 1000000 in
theorem ptag_any (key : List UInt8) (v : Value) (b : List UInt8) (w : World) (hk : key.length = 32) (hv : RB w v b) (_hb : b.length ≤ 1000000) :
    Calls Try.prog 78 #[.agg (bs key).toArray, v] w fun e w' => e = .returned (.agg (bs (ptag key b)).toArray) ∧ No w w' := by
  obtain ⟨W, hW⟩ : ∃ W, W = w := ⟨_, rfl⟩
  obtain ⟨r, hr⟩ : ∃ r, rdN (key.take 16) 0 16 = r := ⟨_, rfl⟩
  have hro := rdN_ok (key.take 16) 0 (by omega) 16
  rw [hr] at hro
  have hra := hro.a
  have hrb := hro.b
  have R1 : ∀ g t w1, w1.heap[g]? = some (.cells (bs key).toArray t (0, 0)) → Calls Try.prog 94 #[.slice (some ⟨g, 0, none⟩) 16 32, .int .u64 0] w1 fun e w' => e = .returned (.agg r.cs) ∧ No w1 w' := fun g t w1 h => by
    have := pread_any (.slice (some ⟨g, 0, none⟩) 16 32) (key.take 16) 0 w1 (RB.ofBlk h (by simp) (by simp [hk]) (by omega) (by omega)) (by simp [hk]) (by omega)
    rw [hr] at this; exact this
  have hpk : [Value.int .u64 ((r.a &&& 1152921487695413247 : Nat) : Int), .int .u64 ((r.b &&& 1152921487695413244 : Nat) : Int), .int .u64 (r.c : Int)] = N3.cl (pkey key) := by unfold pkey; rw [hr]; rfl
  have hac : [Value.int .u64 0, .int .u64 0, .int .u64 0] = N3.cl (pacc (pkey key) b 0) := rfl
  have hpo : (pkey key).Ok := by unfold pkey; rw [hr]; exact pclamp_ok hro
  generalize hK : pkey key = kr at hpk hac hpo
  have H := St.nil (fun _ => False) w
  refine q_enter Try.func78 rfl rfl ?_
  refine go_W H ?_; clear H; intro w H
  refine q_box H ?_; clear H; intro gk w H
  refine go_W H ?_; clear H; intro w H
  refine q_alloc H ?_; clear H; intro go w H
  refine go_W H ?_; clear H; intro w H
  refine q_call (R1 gk _ _ (H.blk (by (repeat (first | exact Take.z | apply Take.s)); done))) ?_
  rintro _ w1 ⟨rfl, hn⟩
  replace H := H.no hn
  clear hn
  refine ⟨_, rfl, ?_⟩
  refine q_alloc H ?_; clear H; intro gr w H
  repeat (first | (refine g_lw ?_; (first | refine q_move ?_ | refine q_assign ?_ | refine q_nil ?_ | refine q_and64 1152921487695413247 ?_ | refine q_and64 1152921487695413244 ?_ | (refine g_bin ?_; (first | refine q_add64 ?_ | refine q_sub64 ?_ | refine q_mul64 ?_ | refine q_quo64 ?_ | refine q_rem64 ?_ | refine q_shr ?_ | refine q_nil_eq_f ?_ | refine q_nil_eq_t ?_ | refine q_nil_ne_t ?_ | refine q_nil_ne_f ?_ | refine q_snil_eq_f ?_ | refine q_snil_eq_t ?_ | refine q_snil_ne_t ?_ | refine q_snil_ne_f ?_ | refine q_xor8 ?_ | refine q_lt_t ?_ | refine q_lt_f ?_ | refine q_le_t ?_ | refine q_le_f ?_ | refine q_gt_t ?_ | refine q_gt_f ?_ | refine q_ge_t ?_ | refine q_ge_f ?_ | refine q_eq_t ?_ | refine q_eq_f ?_ | refine q_ne_t ?_ | refine q_ne_f ?_ | refine q_steq_t ?_ | refine q_steq_f ?_ | refine q_stne_t ?_ | refine q_stne_f ?_ | refine q_sadd ?_)) | (refine g_load ?_; (first | refine q_load H ?_ | refine q_loadW H ?_ | refine q_loadB H ?_)) | (refine g_store ?_; (first | (refine q_storeB H ?_; clear H; intro w H) | (refine q_store H ?_; clear H; intro w H) | (refine q_storeW H ?_; clear H; intro w H))) | refine q_nilCheck ?_ | refine q_field ?_ | refine q_fieldO ?_ | refine q_idxA ?_ | refine q_idxS ?_ | refine q_pick_t ?_ | refine q_pick_f ?_ | refine q_off ?_ | refine q_off_none ?_ | refine q_offU ?_ | refine q_offU_none ?_ | refine q_extract ?_ | refine q_not_t ?_ | refine q_not_f ?_ | refine q_partC ?_ | (refine g_conv ?_; (first | refine q_conv64 ?_ | refine q_u8u64 ?_)) | (refine g_call ?_; (first | refine q_len ?_ | refine q_lenStr ?_)) | (refine g_slice ?_; (first | refine q_sliceArr ?_ | refine q_arrTo ?_ | refine q_arrFrom ?_)))) | (refine g_cw ?_; (first | refine q_seq ?_ | refine q_region ?_ | refine q_block ?_ | refine q_cond_true rfl ?_ | refine q_cond_false rfl ?_ | refine q_skip ?_ | refine q_exit ?_ | refine q_ret ?_)) | refine q_then ?_ | refine q_in ?_ | refine q_in_hit ?_ | refine q_in_miss ?_ | refine q_in_ret ?_ | refine q_then_exit ?_ | refine q_then_ret ?_ | refine q_rnd ?_)
  refine q_alloc H ?_; clear H; intro ga w H
  refine go_W H ?_; clear H; intro w H
  rw [hpk, hac] at H
  refine q_loop (X := Nat × Value) (fun x => [(1, x.2), (2, .pointer (some ⟨gk, 0, none⟩)), (4, .pointer (some ⟨go, 0, none⟩)), (5, .pointer (some ⟨gr, 0, none⟩)), (6, .pointer (some ⟨ga, 0, none⟩))])
    (fun x w => St (fun _ => False) W [cells ga (N3.cl (pacc kr b x.1)) 135, cells gr (N3.cl kr) 135, cells go (bs (List.replicate 16 0)) 101, cells gk (bs key) 25] w ∧
      x.1 ≤ (b.length + 15) / 16 ∧ RB W x.2 (b.drop (16 * x.1))) (fun x => b.length - 16 * x.1) (0, v) ⟨rfl, rfl, rfl, rfl, rfl, trivial⟩ ⟨by rw [hW]; exact H, Nat.zero_le _, by rw [hW]; simpa using hv⟩ ?_
  clear H
  rintro ⟨j, u⟩ ρ w ⟨H, hj, hu⟩
  simp only at H hj hu
  obtain ⟨rb, hrb'⟩ : ∃ rb, b.drop (16 * j) = rb := ⟨_, rfl⟩
  have hrl : rb.length = b.length - 16 * j := by rw [← hrb', List.length_drop]
  rw [hrb'] at hu
  obtain ⟨ua, uc, rfl⟩ := hu.val
  have hx17 : (over (List.replicate 17 0) 0 16 rb).length = 17 := by rw [over_length _ _ _ _ (by simp)]; simp
  have hpl := pfront_length rb
  by_cases hl : 0 < rb.length
  · refine go_W H ?_; clear H; intro w H
    refine q_alloc H ?_; clear H; intro gx w H
    refine go_W H ?_; clear H; intro w H
    refine q_copyB H (hu.no H.fr) ?_
    clear H; intro w H
    refine go_W H ?_; clear H; intro w H
    refine q_storeB (b := 1) H ?_ rfl rfl (by first | exact .z | exact .s .z) (by omega)
    clear H; intro w H
    rw [pfront_eq] at H
    refine go_W H ?_; clear H; intro w H
    obtain ⟨mo, hmo⟩ : ∃ mo, ((pfront rb).getD 16 0).toNat = mo := ⟨_, rfl⟩
    have hmo2 : mo < 18446744073709551616 := by have := ((pfront rb).getD 16 0).toNat_lt; omega
    obtain ⟨rn, hrn⟩ : ∃ rn, rdN (pfront rb) mo 16 = rn := ⟨_, rfl⟩
    have hrno := hrn ▸ rdN_ok (pfront rb) mo hmo2 16
    obtain ⟨an, han⟩ : ∃ an, (pacc kr b j).add rn = an := ⟨_, rfl⟩
    have hano := han ▸ N3.add_ok (pacc kr b j) rn
    obtain ⟨tn, htn⟩ : ∃ tn, pacc kr b (j + 1) = tn := ⟨_, rfl⟩
    have htn2 : an.times kr = tn := by rw [← htn, ← han, ← hrn, ← hmo]; show _ = pstep _ _ _; unfold pstep; rw [hrb']
    have C1 : ∀ t w1, w1.heap[gx]? = some (.cells (bs (pfront rb)).toArray t (0, 0)) → Calls Try.prog 94 #[.slice (some ⟨gx, 0, none⟩) 16 17, .int .u64 (mo : Int)] w1 fun e w' => e = .returned (.agg rn.cs) ∧ No w1 w' := fun t w1 h => by
      have := pread_any (.slice (some ⟨gx, 0, none⟩) 16 17) ((pfront rb).take 16) mo w1 (RB.ofBlk h (by simp) (by simp [hpl]) (by omega) (by omega)) (by simp [hpl]) hmo2
      rw [rdN_take _ _ _ (Nat.le_refl _), hrn] at this; exact this
    have C2 : ∀ w1, Calls Try.prog 95 #[.agg (N3.cl (pacc kr b j)).toArray, .agg rn.cs] w1 fun e w' => e = .returned (.agg an.cs) ∧ No w1 w' := fun w1 => by
      have := padd_any (pacc kr b j) rn w1 (pacc_ok _ _ _) hrno
      rw [han] at this; exact this
    have C3 : ∀ w1, Calls Try.prog 96 #[.agg an.cs, .agg (N3.cl kr).toArray] w1 fun e w' => e = .returned (.agg (N3.cl tn).toArray) ∧ No w1 w' := fun w1 => by
      have := ptimes_any an kr w1 hano hpo
      rw [htn2] at this; exact this
    generalize hP : pacc kr b j = pj at *
    refine q_merge (X := Unit) (fun _ => [(1, .slice ua rb.length uc), (2, .pointer (some ⟨gk, 0, none⟩)), (4, .pointer (some ⟨go, 0, none⟩)), (5, .pointer (some ⟨gr, 0, none⟩)), (6, .pointer (some ⟨ga, 0, none⟩)), (8, .int .i64 (min rb.length 16 : Nat))])
      (fun _ w => St (fun _ => False) W [cells ga (N3.cl tn) 135, cells gr (N3.cl kr) 135, cells go (bs (List.replicate 16 0)) 101, cells gk (bs key) 25] w) ?_ ?_
    · replace H := H.drew
      refine r_start (Hold [(gx, .cells (bs (pfront rb)).toArray 137 (0, 0)), (gr, .cells (N3.cl kr).toArray 135 (0, 0))]) 10 rfl holdS ?_
      refine r_takeX 1 ?_; refine r_takeX 2 ?_; refine r_takeX 3 ?_; refine r_takeX 4 ?_
      rw [hmo]
      refine r_takeX 7 ?_
      refine r_two 0 5 rfl rfl ?_ ?_
      · refine q_loadW H ?_
        refine q_nil ?_; refine r_nextS ?_
        refine r_op 5 rfl ?_
        refine q_call (C1 _ _ (H.blk (by (repeat (first | exact Take.z | apply Take.s)); done))) ?_
        rintro _ w1 ⟨rfl, hn⟩
        replace H := H.no hn
        refine ⟨_, rfl, ?_⟩
        refine q_nil ?_; refine r_nextS ?_
        refine r_op 6 rfl ?_
        refine q_call (C2 _) ?_
        rintro _ w1 ⟨rfl, hn⟩
        replace H := H.no hn
        refine ⟨_, rfl, ?_⟩
        refine q_nil ?_; refine r_nextS ?_
        refine r_op 8 rfl ?_
        refine q_call (C3 _) ?_
        rintro _ w1 ⟨rfl, hn⟩
        replace H := H.no hn
        refine ⟨_, rfl, ?_⟩
        refine q_nil ?_; refine r_nextS ?_
        refine r_op 9 rfl ?_
        refine q_storeW (h1 := N3.cl_one _) H ?_
        clear H; intro w H
        refine q_nil ?_; refine r_nextS ?_
        refine r_done ?_
        exact ⟨(), ⟨rfl, rfl, rfl, rfl, rfl, rfl, trivial⟩, H.sub (by repeat (first | exact Sub.nil | apply Sub.cons | exact Take.z | apply Take.s))⟩
      · refine q_call (C1 _ _ (H.blk (by (repeat (first | exact Take.z | apply Take.s)); done))) ?_
        rintro _ w1 ⟨rfl, hn⟩
        replace H := H.no hn
        refine ⟨_, rfl, ?_⟩
        refine q_nil ?_; refine r_nextS ?_
        refine r_op 0 rfl ?_
        refine q_loadW H ?_
        refine q_nil ?_; refine r_nextS ?_
        refine r_op 6 rfl ?_
        refine q_call (C2 _) ?_
        rintro _ w1 ⟨rfl, hn⟩
        replace H := H.no hn
        refine ⟨_, rfl, ?_⟩
        refine q_nil ?_; refine r_nextS ?_
        refine r_op 8 rfl ?_
        refine q_call (C3 _) ?_
        rintro _ w1 ⟨rfl, hn⟩
        replace H := H.no hn
        refine ⟨_, rfl, ?_⟩
        refine q_nil ?_; refine r_nextS ?_
        refine r_op 9 rfl ?_
        refine q_storeW (h1 := N3.cl_one _) H ?_
        clear H; intro w H
        refine q_nil ?_; refine r_nextS ?_
        refine r_done ?_
        exact ⟨(), ⟨rfl, rfl, rfl, rfl, rfl, rfl, trivial⟩, H.sub (by repeat (first | exact Sub.nil | apply Sub.cons | exact Take.z | apply Take.s))⟩
    · clear H
      rintro - ρ w H
      refine go_W H ?_; clear H; intro w H
      refine q_fromB (min rb.length 16) hu ?_
      intro u' hu' _
      refine go_W H ?_; clear H; intro w H
      refine ⟨(j + 1, u'), ⟨rfl, rfl, rfl, rfl, rfl, trivial⟩, ⟨by rw [htn]; exact H, ?_, ?_⟩, ?_⟩
      · show j + 1 ≤ _
        omega
      · show RB W u' (b.drop (16 * (j + 1)))
        rw [← drop_round, hrb']
        exact hu' _ hu
      · show b.length - 16 * (j + 1) < b.length - 16 * j
        omega
  · have hj2 : j = (b.length + 15) / 16 := by omega
    refine go_W H ?_; clear H; intro w H
    obtain ⟨ln, hln⟩ : ∃ n, (pacc kr b j).less = n := ⟨_, rfl⟩
    have hlno := hln ▸ N3.less_ok (pacc kr b j)
    obtain ⟨sn, hsn⟩ : ∃ n, rdN (key.drop 16) 0 16 = n := ⟨_, rfl⟩
    have hsno := hsn ▸ rdN_ok (key.drop 16) 0 (by omega) 16
    obtain ⟨en, hen⟩ : ∃ n, ln.add sn = n := ⟨_, rfl⟩
    have hpe : pend key b = en := by unfold pend; rw [hK, ← hj2, hln, hsn, hen]
    have C1 : ∀ w1, Calls Try.prog 97 #[.agg (N3.cl (pacc kr b j)).toArray] w1 fun e w' => e = .returned (.agg ln.cs) ∧ No w1 w' := fun w1 => by
      have := pless_any (pacc kr b j) w1 (pacc_ok _ _ _)
      rw [hln] at this; exact this
    have C2 : ∀ t w1, w1.heap[gk]? = some (.cells (bs key).toArray t (0, 0)) → Calls Try.prog 94 #[.slice (some ⟨gk, 16, none⟩) 16 16, .int .u64 0] w1 fun e w' => e = .returned (.agg sn.cs) ∧ No w1 w' := fun t w1 h => by
      have := pread_any (.slice (some ⟨gk, 16, none⟩) 16 16) (key.drop 16) 0 w1 (RB.ofBlk h (List.take_of_length_le (by simp [hk])) (by simp [hk]) (by omega) (by omega)) (by simp [hk]) (by omega)
      rw [hsn] at this; exact this
    have C3 : ∀ w1, Calls Try.prog 95 #[.agg ln.cs, .agg sn.cs] w1 fun e w' => e = .returned (.agg (N3.cl en).toArray) ∧ No w1 w' := fun w1 => by
      have := padd_any ln sn w1 hlno hsno
      rw [hen] at this; exact this
    generalize hP : pacc kr b j = pj at *
    replace H := H.drew
    refine r_start (Hold []) 6 rfl trivial ?_
    refine r_takeX 2 ?_
    refine r_op 0 rfl ?_
    refine q_loadW H ?_
    refine q_nil ?_; refine r_nextS ?_
    refine r_op 1 rfl ?_
    refine q_call (C1 _) ?_
    rintro _ w1 ⟨rfl, hn⟩
    replace H := H.no hn
    refine ⟨_, rfl, ?_⟩
    refine q_nil ?_; refine r_nextS ?_
    refine r_op 3 rfl ?_
    refine q_call (C2 _ _ (H.blk (by (repeat (first | exact Take.z | apply Take.s)); done))) ?_
    rintro _ w1 ⟨rfl, hn⟩
    replace H := H.no hn
    refine ⟨_, rfl, ?_⟩
    refine q_nil ?_; refine r_nextS ?_
    refine r_op 4 rfl ?_
    refine q_call (C3 _) ?_
    rintro _ w1 ⟨rfl, hn⟩
    replace H := H.no hn
    refine ⟨_, rfl, ?_⟩
    refine q_nil ?_; refine r_nextS ?_
    refine r_op 5 rfl ?_
    refine q_storeW (h1 := N3.cl_one _) H ?_
    clear H; intro w H
    refine q_nil ?_; refine r_nextS ?_
    refine r_done ?_
    refine go_W H ?_; clear H; intro w H
    refine q_alloc H ?_; clear H; intro gz w H
    refine go_W H ?_; clear H; intro w H
    clear C1 C2 C3 R1 hac hpk hro hra hrb hu hx17 hpl hlno hsno hln hsn hen hP hrb' hK hr hpo hv
    refine q_rounds 17 ?_
    repeat (first | (refine g_lw ?_; (first | refine q_move ?_ | refine q_assign ?_ | refine q_nil ?_ | refine q_conv ?_ (pby _ _) | (refine g_bin ?_; (first | refine q_add64 ?_ | refine q_sub64 ?_ | refine q_mul64 ?_ | refine q_quo64 ?_ | refine q_rem64 ?_ | refine q_shr ?_ | refine q_nil_eq_f ?_ | refine q_nil_eq_t ?_ | refine q_nil_ne_t ?_ | refine q_nil_ne_f ?_ | refine q_snil_eq_f ?_ | refine q_snil_eq_t ?_ | refine q_snil_ne_t ?_ | refine q_snil_ne_f ?_ | refine q_xor8 ?_ | refine q_lt_t ?_ | refine q_lt_f ?_ | refine q_le_t ?_ | refine q_le_f ?_ | refine q_gt_t ?_ | refine q_gt_f ?_ | refine q_ge_t ?_ | refine q_ge_f ?_ | refine q_eq_t ?_ | refine q_eq_f ?_ | refine q_ne_t ?_ | refine q_ne_f ?_ | refine q_steq_t ?_ | refine q_steq_f ?_ | refine q_stne_t ?_ | refine q_stne_f ?_ | refine q_sadd ?_)) | (refine g_load ?_; (first | refine q_load H ?_ | refine q_loadW H ?_ | refine q_loadB H ?_)) | (refine g_store ?_; (first | (refine q_storeB H ?_; clear H; intro w H) | (refine q_store H ?_; clear H; intro w H) | (refine q_storeW H ?_; clear H; intro w H))) | refine q_nilCheck ?_ | refine q_field ?_ | refine q_fieldO ?_ | refine q_idxA ?_ | refine q_idxS ?_ | refine q_pick_t ?_ | refine q_pick_f ?_ | refine q_off ?_ | refine q_off_none ?_ | refine q_offU ?_ | refine q_offU_none ?_ | refine q_extract ?_ | refine q_not_t ?_ | refine q_not_f ?_ | refine q_partC ?_ | (refine g_conv ?_; (first | refine q_conv64 ?_ | refine q_u8u64 ?_)) | (refine g_call ?_; (first | refine q_len ?_ | refine q_lenStr ?_)) | (refine g_slice ?_; (first | refine q_sliceArr ?_ | refine q_arrTo ?_ | refine q_arrFrom ?_)))) | (refine g_cw ?_; (first | refine q_seq ?_ | refine q_region ?_ | refine q_block ?_ | refine q_cond_true rfl ?_ | refine q_cond_false rfl ?_ | refine q_skip ?_ | refine q_exit ?_ | refine q_ret ?_)) | refine q_then ?_ | refine q_in ?_ | refine q_in_hit ?_ | refine q_in_miss ?_ | refine q_in_ret ?_ | refine q_then_exit ?_ | refine q_then_ret ?_ | refine q_rnd ?_)
    refine ret1 rfl (rv_agg H (hl := by simp [bs_length])) ⟨?_, hW ▸ H.fr⟩
    unfold ptag
    rw [hpe]
    rfl
end Go.Proofs.Ytbdkicmdidcdcaa
namespace Go.Proofs.Ytbdkicmdidcdcaa
open Go.RowKit

def amark (key nonce ad c : List UInt8) : List UInt8 :=
  ptag ((cblock key 0 nonce).take 32) (pad16 (pad16 ad ++ c) ++ le8 ad.length ++ le8 c.length)
theorem amark_length (key nonce ad c : List UInt8) : (amark key nonce ad c).length = 16 := ptag_length _ _
theorem over_take (blk : List UInt8) (h : blk.length = 64) : over (List.replicate 32 0) 0 32 blk = blk.take 32 := by
  unfold over
  rw [List.take_zero, List.nil_append, Nat.zero_add, List.drop_of_length_le (by simp; omega), List.append_nil]

set_option maxRecDepth 100000 in
set_option maxHeartbeats 1000000 in
theorem mark_any (key nonce : List UInt8) (av cv : Value) (ad c : List UInt8) (w : World) (hk : key.length = 32) (hn : nonce.length = 12) (ha : RB w av ad) (hc : RB w cv c) (hal : ad.length ≤ 100000) (hcl : c.length ≤ 100000) :
    Calls Try.prog 67 #[.agg (bs key).toArray, .agg (bs nonce).toArray, av, cv] w fun e w' => e = .returned (.agg (bs (amark key nonce ad c)).toArray) ∧ No w w' := by
  have hkl : (bs key).length = 32 := by rw [bs_length, hk]
  have hnl : (bs nonce).length = 12 := by rw [bs_length, hn]
  obtain ⟨blk, hblk⟩ : ∃ b, cblock key 0 nonce = b := ⟨_, rfl⟩
  have hb := hblk ▸ cblock_length key 0 nonce
  have hbl : (bs blk).length = 64 := by rw [bs_length, hb]
  have B1 : ∀ w1, Calls Try.prog 76 #[.agg (bs key).toArray, .int .u32 0, .agg (bs nonce).toArray] w1 fun e w' => e = .returned (.agg (bs blk).toArray) ∧ No w1 w' := fun w1 => by
    rw [← hblk]; exact cblock_any key nonce 0 w1 hk hn
  obtain ⟨aa, ac, rfl⟩ := ha.val
  obtain ⟨ca, cc, rfl⟩ := hc.val
  have H := St.nil (fun _ => False) w
  refine q_enter Try.func67 rfl rfl ?_
  refine go_W H ?_; clear H; intro w H
  refine q_box H ?_; clear H; intro gk w H
  refine go_W H ?_; clear H; intro w H
  refine q_box H ?_; clear H; intro gn w H
  refine go_W H ?_; clear H; intro w H
  refine q_alloc H ?_; clear H; intro go w H
  refine go_W H ?_; clear H; intro w H
  refine q_call (B1 _) ?_; rintro _ w1 ⟨rfl, hNo⟩; replace H := H.no hNo; clear hNo; refine ⟨_, rfl, ?_⟩
  refine q_alloc H ?_; clear H; intro gb w H
  refine go_W H ?_; clear H; intro w H
  refine q_alloc H ?_; clear H; intro gx w H
  refine go_W H ?_; clear H; intro w H
  replace H := H.drew
  refine r_start (Hold []) 3 rfl trivial ?_
  refine r_takeX 0 ?_; refine r_takeX 1 ?_
  refine r_op 2 rfl ?_
  refine q_copyB H (H.rbC (by (repeat (first | exact Take.z | apply Take.s)); done) hb (by omega)) ?_; clear H; intro w H
  rw [over_take blk hb] at H
  refine q_nil ?_; refine r_nextS ?_
  refine r_done ?_
  refine go_W H ?_; clear H; intro w H
  refine q_side0B H ?_; clear H; intro g w H
  refine go_W H ?_; clear H; intro w H
  refine q_appR H (ha.no H.fr) ?_; clear H; intro v1 w H _
  have hp1 := pad16_length ad
  refine q_tri H (fill_any v1 ([] ++ ad) _ (by simp; omega)) ?_; clear H; rintro v2 _ w rfl H
  rw [List.nil_append] at H
  refine go_W H ?_; clear H; intro w H
  refine q_appR H (hc.no H.fr) ?_; clear H; intro v3 w H _
  have hl2 : (pad16 ad ++ c).length ≤ 200016 := by rw [List.length_append]; omega
  refine q_tri H (fill_any v3 (pad16 ad ++ c) _ (by omega)) ?_; clear H; rintro v4 _ w rfl H
  refine go_W H ?_; clear H; intro w H
  have hp2 := pad16_length (pad16 ad ++ c)
  obtain ⟨m1, hm1⟩ : ∃ m, pad16 (pad16 ad ++ c) = m := ⟨_, rfl⟩
  rw [hm1] at H hp2
  have hle : (m1 ++ le8 ad.length).length ≤ 200100 := by rw [List.length_append]; simp [le8]; omega
  have hle2 : (m1 ++ le8 ad.length ++ le8 c.length).length ≤ 200200 := by rw [List.length_append]; simp [le8] at hle ⊢; omega
  replace H := H.drew
  refine r_start (Hold [(gx, .cells (bs (blk.take 32)).toArray 25 (0, 0))]) 10 rfl holdS ?_
  have hbt : (bs (blk.take 32)).length = 32 := by rw [bs_length, List.length_take]; omega
  refine r_takeX 0 ?_; refine r_takeX 1 ?_; refine r_takeX 2 ?_; refine r_takeX 5 ?_; refine r_takeX 3 ?_; refine r_takeX 6 ?_
  refine r_op 4 rfl ?_
  refine q_tri H (length_any v4 m1 ad.length _ (by omega) (by omega)) ?_; clear H; rintro v5 _ w rfl H
  refine q_nil ?_; refine r_nextS ?_
  refine r_op 7 rfl ?_
  refine q_tri H (length_any v5 (m1 ++ le8 ad.length) c.length _ (by omega) (by omega)) ?_; clear H; rintro v6 _ w rfl H
  refine q_nil ?_; refine r_nextS ?_
  refine r_op 8 rfl ?_
  refine q_call (ptag_any (blk.take 32) v6 (m1 ++ le8 ad.length ++ le8 c.length) _ (by rw [List.length_take]; omega) (H.rbB (by (repeat (first | exact Take.z | apply Take.s)); done)) (by omega)) ?_; rintro _ w1 ⟨rfl, hNo⟩; replace H := H.no hNo; clear hNo; refine ⟨_, rfl, ?_⟩
  refine q_nil ?_; refine r_nextS ?_
  refine r_op 9 rfl ?_
  have htl : (bs (ptag (blk.take 32) (m1 ++ le8 ad.length ++ le8 c.length))).length = 16 := by rw [bs_length, ptag_length]
  refine q_storeW H ?_; clear H; intro w H
  refine q_nil ?_; refine r_nextS ?_
  refine r_done ?_
  refine go_W H ?_; clear H; intro w H
  refine ret1 rfl (rv_agg H) ⟨?_, H.fr⟩
  unfold amark
  rw [hblk, hm1]
end Go.Proofs.Ytbdkicmdidcdcaa
namespace Go.Proofs.Ytbdkicmdidcdcaa
open Go.RowKit

def aseal (key nonce ad b : List UInt8) : List UInt8 := xorC key 1 nonce b ++ amark key nonce ad (xorC key 1 nonce b)
def aopen (key nonce ad c : List UInt8) : Option (List UInt8) :=
  if c.length < 16 then none else if amark key nonce ad (c.take (c.length - 16)) = c.drop (c.length - 16) then some (xorC key 1 nonce (c.take (c.length - 16))) else none
def OpenTo (o : Option (List UInt8)) (v : Value) (L : List Res) : Prop :=
  (o = none ∧ v = .tuple #[.slice none 0 0, .bool false] ∧ L = []) ∨ ∃ l v', o = some l ∧ v = .tuple #[v', .bool true] ∧ L = [bsl v' l]

theorem cxor_tri (key nonce : List UInt8) (ctr : UInt32) (v : Value) (b : List UInt8) (w : World) (hk : key.length = 32) (hn : nonce.length = 12) (hv : RB w v b) (hb : b.length ≤ 1000000) :
    Tri Try.prog 66 [.agg (bs key).toArray, .int .u32 (wd ctr), .agg (bs nonce).toArray, v] [] w fun v L => L = [bsl v (xorC key ctr nonce b)] ∧ ∃ a c, v = .slice a (xorC key ctr nonce b).length c :=
  Tri.pure fun H => (cxor_any key nonce ctr v b w hk hn hv hb).mono fun e w' ⟨G, h1, h2, h3, h4⟩ => ⟨_, _, h1, ⟨rfl, _, _, by rw [xorC_length]⟩, (H.newBlk h3 h2 h4).asB b.length (xorC_length _ _ _ _) (by omega)⟩

set_option maxRecDepth 100000 in
set_option maxHeartbeats 1000000 in
theorem seal_any (key nonce : List UInt8) (av bv : Value) (ad b : List UInt8) (w : World) (hk : key.length = 32) (hn : nonce.length = 12) (ha : RB w av ad) (hb : RB w bv b) (hal : ad.length ≤ 100000) (hbl : b.length ≤ 100000) :
    Tri Try.prog 53 [.agg (bs key).toArray, .agg (bs nonce).toArray, av, bv] [] w fun v L => L = [bsl v (aseal key nonce ad b)] := by
  refine Tri.pure fun H => ?_
  have hkl : (bs key).length = 32 := by rw [bs_length, hk]
  have hnl : (bs nonce).length = 12 := by rw [bs_length, hn]
  have hxl := xorC_length key 1 nonce b
  obtain ⟨x, hx⟩ : ∃ x, xorC key 1 nonce b = x := ⟨_, rfl⟩
  have X1 := fun w (hb : RB w bv b) => cxor_tri key nonce 1 bv b w hk hn hb (by omega)
  rw [hx] at X1 hxl
  refine q_enter Try.func53 rfl rfl ?_
  refine go_W H ?_; clear H; intro w H
  refine q_box H ?_; clear H; intro gk w H
  refine go_W H ?_; clear H; intro w H
  refine q_box H ?_; clear H; intro gn w H
  refine go_W H ?_; clear H; intro w H
  refine q_tri H (X1 _ (hb.no H.fr)) ?_; clear H; rintro vx _ w ⟨rfl, xa, xc, rfl⟩ H
  refine go_W H ?_; clear H; intro w H
  refine q_call (mark_any key nonce av (.slice xa x.length xc) ad x _ hk hn (ha.no H.fr) (H.rbB (by (repeat (first | exact Take.z | apply Take.s)); done)) hal (by omega)) ?_; rintro _ w1 ⟨rfl, hNo⟩; replace H := H.no hNo; clear hNo; refine ⟨_, rfl, ?_⟩
  refine q_alloc H ?_; clear H; intro gt w H
  have hml : (bs (amark key nonce ad x)).length = 16 := by rw [bs_length, amark_length]
  refine go_W H ?_; clear H; intro w H
  refine q_appR H (H.rbC (by (repeat (first | exact Take.z | apply Take.s)); done) (amark_length _ _ _ _) (by omega)) ?_ (h63 := by rw [amark_length]; omega); clear H; intro v1 w H _
  refine go_W H ?_; clear H; intro w H
  refine ret1 rfl rv_tmp ⟨_, _, rfl, rfl, ?_⟩
  unfold aseal
  rw [hx]
  exact H.sub (by repeat (first | exact Sub.nil | apply Sub.cons | exact Take.z | apply Take.s))
set_option maxRecDepth 100000 in
set_option maxHeartbeats 1000000 in
theorem open_any (key nonce : List UInt8) (av cv : Value) (ad c : List UInt8) (W : World) (hk : key.length = 32) (hn : nonce.length = 12) (ha : RB W av ad) (hc : RB W cv c) (hal : ad.length ≤ 100000) (hcl : c.length ≤ 100000) :
    Tri Try.prog 56 [.agg (bs key).toArray, .agg (bs nonce).toArray, av, cv] [] W (OpenTo (aopen key nonce ad c)) := by
  refine Tri.pure fun H => ?_
  have hkl : (bs key).length = 32 := by rw [bs_length, hk]
  have hnl : (bs nonce).length = 12 := by rw [bs_length, hn]
  obtain ⟨ca, cc, rfl⟩ := hc.val
  refine q_enter Try.func56 rfl rfl ?_
  by_cases h16 : c.length < 16
  · refine go_W H ?_; clear H; intro w H
    refine q_box H ?_; clear H; intro gk w H
    refine go_W H ?_; clear H; intro w H
    refine q_box H ?_; clear H; intro gn w H
    refine go_W H ?_; clear H; intro w H
    refine ret2 rfl rv_tmp rv_tmp ⟨_, _, rfl, .inl ⟨?_, rfl, rfl⟩, H.sub (by repeat (first | exact Sub.nil | apply Sub.cons | exact Take.z | apply Take.s))⟩
    unfold aopen
    rw [if_pos h16]
  · refine go_W H ?_; clear H; intro w H
    refine q_box H ?_; clear H; intro gk w H
    refine go_W H ?_; clear H; intro w H
    refine q_box H ?_; clear H; intro gn w H
    refine go_W H ?_; clear H; intro w H
    obtain ⟨n, hn16⟩ : ∃ n, c.length - 16 = n := ⟨_, rfl⟩
    have hcn : (c.length : Int) - 16 = (n : Int) := by omega
    rw [hcn]
    have hnl2 : n ≤ c.length := by omega
    have htl : (c.take n).length = n := by rw [List.length_take]; omega
    have hml : (bs (amark key nonce ad (c.take n))).length = 16 := by rw [bs_length, amark_length]
    obtain ⟨mk, hmk⟩ : ∃ m, amark key nonce ad (c.take n) = m := ⟨_, rfl⟩
    have hmkl := hmk ▸ amark_length key nonce ad (c.take n)
    rw [hmk] at hml
    have M1 : ∀ w1 v1, RB w1 av ad → RB w1 v1 (c.take n) → Calls Try.prog 67 #[.agg (bs key).toArray, .agg (bs nonce).toArray, av, v1] w1 fun e w' => e = .returned (.agg (bs mk).toArray) ∧ No w1 w' := fun w1 v1 h1 h2 => by
      rw [← hmk]; exact mark_any key nonce av v1 ad (c.take n) w1 hk hn h1 h2 hal (by omega)
    have ho : aopen key nonce ad c = if mk = c.drop n then some (xorC key 1 nonce (c.take n)) else none := by
      unfold aopen
      rw [if_neg h16, hn16, hmk]
    refine q_merge (X := Nat) (fun gt => [(3, .slice ca c.length cc), (10, .int .i64 n), (4, .pointer (some ⟨gk, 0, none⟩)), (5, .pointer (some ⟨gn, 0, none⟩)), (11, .pointer (some ⟨gt, 0, none⟩)), (8, .slice none 0 0), (9, .bool false)])
      (fun gt w' => St (fun _ => False) W [cells gt (bs mk) 101, cells gn (bs nonce) 84, cells gk (bs key) 25] w') ?_ ?_
    · replace H := H.drew
      refine r_start (Hold [(gk, .cells (bs key).toArray 25 (0, 0)), (gn, .cells (bs nonce).toArray 84 (0, 0))]) 9 rfl holdS ?_
      refine r_takeX 0 ?_; refine r_takeX 1 ?_; refine r_takeX 2 ?_; refine r_takeX 3 ?_; refine r_takeX 4 ?_
      refine r_takeE 5 rfl rfl (x_toB n hc) ?_
      rintro v1 ⟨hv1, _⟩
      refine r_two 6 7 rfl rfl ?_ ?_
      · refine q_call (M1 _ v1 (ha.no H.fr) (hv1 _ (hc.no H.fr))) ?_; rintro _ w1 ⟨rfl, hNo⟩; replace H := H.no hNo; clear hNo; refine ⟨_, rfl, ?_⟩
        refine q_nil ?_; refine r_nextS ?_
        refine r_op 7 rfl ?_
        refine q_alloc H ?_; clear H; intro gt w H
        refine q_nil ?_; refine r_nextS ?_
        refine r_op 8 rfl ?_
        refine q_storeW H ?_; clear H; intro w H
        refine q_nil ?_; refine r_nextS ?_
        refine r_done ?_
        exact ⟨gt, ⟨rfl, rfl, rfl, rfl, rfl, rfl, rfl, trivial⟩, H.sub (by repeat (first | exact Sub.nil | apply Sub.cons | exact Take.z | apply Take.s))⟩
      · refine q_alloc H ?_; clear H; intro gt w H
        refine q_nil ?_; refine r_nextS ?_
        refine r_op 6 rfl ?_
        refine q_call (M1 _ v1 (ha.no H.fr) (hv1 _ (hc.no H.fr))) ?_; rintro _ w1 ⟨rfl, hNo⟩; replace H := H.no hNo; clear hNo; refine ⟨_, rfl, ?_⟩
        refine q_nil ?_; refine r_nextS ?_
        refine r_op 8 rfl ?_
        refine q_storeW H ?_; clear H; intro w H
        refine q_nil ?_; refine r_nextS ?_
        refine r_done ?_
        exact ⟨gt, ⟨rfl, rfl, rfl, rfl, rfl, rfl, rfl, trivial⟩, H.sub (by repeat (first | exact Sub.nil | apply Sub.cons | exact Take.z | apply Take.s))⟩
    · clear H
      rintro gt ρ w H
      refine go_W H ?_; clear H; intro w H
      by_cases he : mk = c.drop n
      all_goals
        replace H := H.drew
        refine r_start (Hold []) 6 rfl trivial ?_
        refine r_takeX 0 ?_; refine r_takeX 1 ?_; refine r_takeX 2 ?_
        refine r_takeE 3 rfl rfl (x_fromB n hc) ?_
        rintro v2 ⟨hv2, _⟩
        refine r_op 4 rfl ?_
      · have S1 := Same_any (.slice (some ⟨gt, 0, none⟩) 16 16) v2 mk (c.drop n) _ (H.rbC (by (repeat (first | exact Take.z | apply Take.s)); done) hmkl (by omega)) (hv2 _ (hc.no H.fr))
        rw [decide_eq_true he] at S1
        refine q_call (S1) ?_; rintro _ w1 ⟨rfl, hNo⟩; replace H := H.no hNo; clear hNo; refine ⟨_, rfl, ?_⟩
        refine q_nil ?_; refine r_nextS ?_
        refine r_takeX 5 ?_
        refine r_done ?_
        refine go_W H ?_; clear H; intro w H
        replace H := H.drew
        refine r_start (Hold [(gk, .cells (bs key).toArray 25 (0, 0)), (gn, .cells (bs nonce).toArray 84 (0, 0))]) 8 rfl holdS ?_
        refine r_takeX 0 ?_; refine r_takeX 1 ?_; refine r_takeX 2 ?_; refine r_takeX 3 ?_
        refine r_takeE 4 rfl rfl (x_toB n hc) ?_
        rintro v1 ⟨hv1, _⟩
        refine r_op 5 rfl ?_
        refine q_tri H (cxor_tri key nonce 1 v1 (c.take n) _ hk hn (hv1 _ (hc.no H.fr)) (by omega)) ?_; clear H; rintro vx _ w ⟨rfl, _⟩ H
        refine q_nil ?_; refine r_nextS ?_
        refine r_takeX 6 ?_; refine r_takeX 7 ?_
        refine r_done ?_
        refine go_W H ?_; clear H; intro w H
        refine ret2 rfl rv_tmp rv_tmp ⟨_, _, rfl, .inr ⟨_, _, ?_, rfl, rfl⟩, H.sub (by repeat (first | exact Sub.nil | apply Sub.cons | exact Take.z | apply Take.s))⟩
        rw [ho, if_pos he]
      · have S1 := Same_any (.slice (some ⟨gt, 0, none⟩) 16 16) v2 mk (c.drop n) _ (H.rbC (by (repeat (first | exact Take.z | apply Take.s)); done) hmkl (by omega)) (hv2 _ (hc.no H.fr))
        rw [decide_eq_false he] at S1
        refine q_call (S1) ?_; rintro _ w1 ⟨rfl, hNo⟩; replace H := H.no hNo; clear hNo; refine ⟨_, rfl, ?_⟩
        refine q_nil ?_; refine r_nextS ?_
        refine r_takeX 5 ?_
        refine r_done ?_
        refine go_W H ?_; clear H; intro w H
        refine ret2 rfl rv_tmp rv_tmp ⟨_, _, rfl, .inl ⟨?_, rfl, rfl⟩, H.sub (by repeat (first | exact Sub.nil | apply Sub.cons | exact Take.z | apply Take.s))⟩
        rw [ho, if_neg he]
end Go.Proofs.Ytbdkicmdidcdcaa
namespace Go.Proofs.Ytbdkicmdidcdcaa
open Go.RowKit

theorem aseal_length (key nonce ad b : List UInt8) : (aseal key nonce ad b).length = b.length + 16 := by
  unfold aseal; rw [List.length_append, amark_length, xorC_length]
theorem aopen_seal (key nonce ad b : List UInt8) : aopen key nonce ad (aseal key nonce ad b) = some b := by
  have hl := aseal_length key nonce ad b
  have hx := xorC_length key 1 nonce b
  unfold aopen
  rw [if_neg (by omega)]
  have e : (aseal key nonce ad b).length - 16 = (xorC key 1 nonce b).length := by omega
  rw [e]
  have e1 : (aseal key nonce ad b).take (xorC key 1 nonce b).length = xorC key 1 nonce b := by unfold aseal; exact List.take_left
  have e2 : (aseal key nonce ad b).drop (xorC key 1 nonce b).length = amark key nonce ad (xorC key 1 nonce b) := by unfold aseal; exact List.drop_left
  rw [e1, e2, if_pos rfl, xorC_twice]

def fit (n : Nat) (l : List UInt8) : List UInt8 := over (List.replicate n 0) 0 n l
theorem fit_length (n : Nat) (l : List UInt8) : (fit n l).length = n := by unfold fit; rw [over_length _ _ _ _ (by simp)]; simp
set_option maxRecDepth 100000 in
theorem Key_any (v : Value) (l : List UInt8) (w : World) (h : RB w v l) : Calls Try.prog 83 #[v] w fun e w' => e = .returned (.agg (bs (fit 32 l)).toArray) ∧ No w w' := by
  have H := St.nil (fun _ => False) w
  have hl : (bs (fit 32 l)).length = 32 := by rw [bs_length, fit_length]
  refine q_enter Try.func83 rfl rfl ?_
  refine go_W H ?_; clear H; intro w H
  refine q_alloc H ?_; clear H; intro go w H
  refine go_W H ?_; clear H; intro w H
  refine q_alloc H ?_; clear H; intro gk w H
  refine go_W H ?_; clear H; intro w H
  refine q_copyB H (h.no H.fr) ?_; clear H; intro w H
  change St _ _ [cells gk (bs (fit 32 l)) _, _] _ at H
  refine go_W H ?_; clear H; intro w H
  exact ret1 rfl (rv_agg H) ⟨rfl, H.fr⟩
set_option maxRecDepth 100000 in
theorem Nonce_any (v : Value) (l : List UInt8) (w : World) (h : RB w v l) : Calls Try.prog 84 #[v] w fun e w' => e = .returned (.agg (bs (fit 12 l)).toArray) ∧ No w w' := by
  have H := St.nil (fun _ => False) w
  have hl : (bs (fit 12 l)).length = 12 := by rw [bs_length, fit_length]
  refine q_enter Try.func84 rfl rfl ?_
  refine go_W H ?_; clear H; intro w H
  refine q_alloc H ?_; clear H; intro go w H
  refine go_W H ?_; clear H; intro w H
  refine q_alloc H ?_; clear H; intro gk w H
  refine go_W H ?_; clear H; intro w H
  refine q_copyB H (h.no H.fr) ?_; clear H; intro w H
  change St _ _ [cells gk (bs (fit 12 l)) _, _] _ at H
  refine go_W H ?_; clear H; intro w H
  exact ret1 rfl (rv_agg H) ⟨rfl, H.fr⟩
theorem qr_known : wd (qr 0x11111111 0x01020304 0x9b8d6f43 0x01234567).a = 3928658676 ∧ wd (qr 0x11111111 0x01020304 0x9b8d6f43 0x01234567).d = 1484899515 := by decide +kernel
theorem fit_kT : fit 32 kT = kT := by decide
set_option maxRecDepth 100000 in
set_option maxHeartbeats 1000000 in
theorem begun4_any (w : World) : Calls Try.prog 73 #[] w fun e w' => e = .returned (.bool true) ∧ No w w' := by
  have H := St.nil (fun _ => False) w
  obtain ⟨hq1, hq2⟩ := qr_known
  have Q1 := fun w => Quarter_any 0x11111111 0x01020304 0x9b8d6f43 0x01234567 w
  generalize qr 0x11111111 0x01020304 0x9b8d6f43 0x01234567 = q at hq1 hq2 Q1
  have K1 : ∀ v w, RB w v kT → Calls Try.prog 83 #[v] w fun e w' => e = .returned (.agg (bs kT).toArray) ∧ No w w' := fun v w h => by
    have := Key_any v kT w h; rw [fit_kT] at this; exact this
  have N1 : ∀ w, Calls Try.prog 84 #[.slice none 0 0] w fun e w' => e = .returned (.agg (bs (fit 12 [])).toArray) ∧ No w w' := fun w => Nonce_any _ [] w (RB.nil w)
  have hn12 : (fit 12 []).length = 12 := fit_length _ _
  have hk32 : kT.length = 32 := rfl
  have ht1 : by8 ((ptag kT mT).getD 0 0) = 168 := by rw [ptag_rfc.1]; rfl
  have ht2 : by8 ((ptag kT mT).getD 15 0) = 169 := by rw [ptag_rfc.2]; rfl
  have htl : (bs (ptag kT mT)).length = 16 := by rw [bs_length, ptag_length]
  have htl0 : 0 < (ptag kT mT).length := by rw [ptag_length]; omega
  have htl15 : 15 < (ptag kT mT).length := by rw [ptag_length]; omega
  have hap := aopen_seal kT (fit 12 []) [97] [98, 99]
  have hsl := aseal_length kT (fit 12 []) [97] [98, 99]
  generalize hgs : aseal kT (fit 12 []) [97] [98, 99] = sc at hap hsl
  have S1 := fun av bv w ha hb => seal_any kT (fit 12 []) av bv [97] [98, 99] w hk32 hn12 ha hb (by decide) (by decide)
  rw [hgs] at S1
  have hsl2 : sc.length = 18 := hsl
  have O1 := fun av cv w ha hc => open_any kT (fit 12 []) av cv [97] sc w hk32 hn12 ha hc (by decide) (by omega)
  rw [hap] at O1
  generalize hgt : ptag kT mT = tg at *
  have T1 : ∀ v w, RB w v mT → Calls Try.prog 78 #[.agg (bs kT).toArray, v] w fun e w' => e = .returned (.agg (bs tg).toArray) ∧ No w w' := fun v w h => by
    rw [← hgt]; exact ptag_any kT v mT w hk32 h (by decide)
  refine q_enter Try.func73 rfl rfl ?_
  refine go_W H ?_; clear H; intro w H
  refine q_call (Q1 _) ?_; rintro _ _ ⟨rfl, rfl⟩; refine ⟨_, rfl, ?_⟩
  refine go_W H ?_; clear H; intro w H
  refine q_constB kT H ?_; clear H; intro gK w H
  refine go_W H ?_; clear H; intro w H
  refine q_call (K1 (.slice (some ⟨gK, 0, none⟩) 32 32) _ (H.rbC (by (repeat (first | exact Take.z | apply Take.s)); done) rfl (by omega))) ?_; rintro _ w1 ⟨rfl, hNo⟩; replace H := H.no hNo; clear hNo; refine ⟨_, rfl, ?_⟩
  refine q_constB mT H ?_; clear H; intro gM w H
  refine q_markC H ?_; clear H; intro w H
  refine q_call (T1 (.slice (some ⟨gM, 0, none⟩) 34 34) _ (H.rbC (by (repeat (first | exact Take.z | apply Take.s)); done) rfl (by omega))) ?_; rintro _ w1 ⟨rfl, hNo⟩; replace H := H.no hNo; clear hNo; refine ⟨_, rfl, ?_⟩
  refine q_alloc H ?_; clear H; intro gt w H
  refine go_W H ?_; clear H; intro w H
  refine q_call (K1 (.slice (some ⟨gK, 0, none⟩) 32 32) _ (H.rbC (by (repeat (first | exact Take.z | apply Take.s)); done) rfl (by omega))) ?_; rintro _ w1 ⟨rfl, hNo⟩; replace H := H.no hNo; clear hNo; refine ⟨_, rfl, ?_⟩
  refine q_call (N1 _) ?_; rintro _ w1 ⟨rfl, hNo⟩; replace H := H.no hNo; clear hNo; refine ⟨_, rfl, ?_⟩
  refine q_constB [97] H ?_; clear H; intro ga w H
  refine q_markC H ?_; clear H; intro w H
  refine q_constB [98, 99] H ?_; clear H; intro gb w H
  refine q_markC H ?_; clear H; intro w H
  refine q_tri H (S1 (.slice (some ⟨ga, 0, none⟩) 1 1) (.slice (some ⟨gb, 0, none⟩) 2 2) _ (H.rbC (by (repeat (first | exact Take.z | apply Take.s)); done) rfl (by omega)) (H.rbC (by (repeat (first | exact Take.z | apply Take.s)); done) rfl (by omega))) ?_; clear H; rintro vs _ w rfl H
  refine go_W H ?_; clear H; intro w H
  refine q_call (K1 (.slice (some ⟨gK, 0, none⟩) 32 32) _ (H.rbC (by (repeat (first | exact Take.z | apply Take.s)); done) rfl (by omega))) ?_; rintro _ w1 ⟨rfl, hNo⟩; replace H := H.no hNo; clear hNo; refine ⟨_, rfl, ?_⟩
  refine q_call (N1 _) ?_; rintro _ w1 ⟨rfl, hNo⟩; replace H := H.no hNo; clear hNo; refine ⟨_, rfl, ?_⟩
  refine q_constB [97] H ?_; clear H; intro ga2 w H
  refine q_markC H ?_; clear H; intro w H
  refine go_W H ?_; clear H; intro w H
  refine q_tri H (O1 (.slice (some ⟨ga2, 0, none⟩) 1 1) vs _ (H.rbC (by (repeat (first | exact Take.z | apply Take.s)); done) rfl (by omega)) (H.rbB (by (repeat (first | exact Take.z | apply Take.s)); done))) ?_; clear H
  rintro vo _ w (⟨h, _⟩ | ⟨l, v', h, rfl, rfl⟩) H
  · cases h
  obtain rfl : [98, 99] = l := by injection h
  obtain ⟨sa, sc', rfl⟩ := (H.rbB (v := vs) (by (repeat (first | exact Take.z | apply Take.s)); done)).val
  refine go_W H ?_; clear H; intro w H
  refine q_call (Begun3_any _) ?_; rintro _ w1 ⟨rfl, hNo⟩; replace H := H.no hNo; clear hNo; refine ⟨_, rfl, ?_⟩
  refine go_W H ?_; clear H; intro w H
  refine q_str (H.rbB (by (repeat (first | exact Take.z | apply Take.s)); done)) ?_
  refine q_seq_t ?_
  refine go_W H ?_; clear H; intro w H
  exact ret1 rfl rv_tmp ⟨rfl, H.fr⟩
set_option maxRecDepth 100000 in
theorem Begun4_any (w : World) : Calls Try.prog 60 #[] w fun e w' => e = .returned (.bool true) ∧ No w w' := by
  have H := St.nil (fun _ => False) w
  refine q_enter Try.func60 rfl rfl ?_
  refine go_W H ?_; clear H; intro w H
  refine q_call (begun4_any _) ?_; rintro _ w1 ⟨rfl, hNo⟩; replace H := H.no hNo; clear hNo; refine ⟨_, rfl, ?_⟩
  refine go_W H ?_; clear H; intro w H
  exact ret1 rfl rv_tmp ⟨rfl, H.fr⟩
end Go.Proofs.Ytbdkicmdidcdcaa
