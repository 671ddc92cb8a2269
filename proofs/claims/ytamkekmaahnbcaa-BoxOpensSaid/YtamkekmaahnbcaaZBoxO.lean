/-
  BoxOpens, walked.
-/
import Derived.Test.YtamkekmaahnbcaaZN
import Derived.Test.YtamkekmaahnbcaaZI
namespace Go.Proofs.Ytamkekmaahnbcaa
open Go.RowKit

set_option maxRecDepth 100000 in
set_option maxHeartbeats 2000000 in
theorem BoxOpens_real (key : UInt8) (n : Int) (av0 bv0 : Value) (ad0 b0 : List UInt8) (how : Int) (x : UInt8) (W : World) (ha0 : RB W av0 ad0) (hb0 : RB W bv0 b0) (hn0 : -9223372036854775808 ≤ n) (hn' : n ≤ 9223372036854775807) :
    Calls Try.prog 4 #[.bool false, .int .u8 (by8 key), .int .i64 n, av0, bv0, .int .i64 how, .int .u8 (by8 x)] W fun e w' => e = .returned (.bool true) ∧ No W w' := by
  have H := St.nil (fun _ => False) W
  refine q_enter Try.func4 rfl rfl ?_
  refine go_W H ?_; clear H; intro w H
  refine q_call (begun8_any _) ?_; rintro _ w1 ⟨rfl, hNo⟩; replace H := H.no hNo; clear hNo; refine ⟨_, rfl, ?_⟩
  refine go_W H ?_; clear H; intro w H
  refine q_call (Short_any av0 ad0 20 _ (ha0.no H.fr)) ?_; rintro _ w1 ⟨av, rfl, ha, -, hNo⟩; replace H := H.no hNo; clear hNo; refine ⟨_, rfl, ?_⟩
  refine go_W H ?_; clear H; intro w H
  refine q_call (Short_any bv0 b0 60 _ (hb0.no H.fr)) ?_; rintro _ w2 ⟨bv, rfl, hb, -, hNo⟩; replace H := H.no hNo; clear hNo; refine ⟨_, rfl, ?_⟩
  replace ha := ha _ ha0
  replace hb := hb _ hb0
  have hal : (ad0.take 20).length ≤ 20 := by rw [List.length_take]; omega
  have hbl : (b0.take 60).length ≤ 60 := by rw [List.length_take]; omega
  generalize ad0.take 20 = ad at *
  generalize b0.take 60 = b at *
  clear ha0 hb0
  by_cases hn : n < 0
  · refine go_W H ?_; clear H; intro w H
    exact ret1 rfl rv_tmp ⟨rfl, H.fr⟩
  by_cases hm : n = 9223372036854775807
  · refine go_W H ?_; clear H; intro w H
    exact ret1 rfl rv_tmp ⟨rfl, H.fr⟩
  refine go_W H ?_; clear H; intro w H
  refine q_tri H (TNew_any n _) ?_; clear H; rintro _ _ w ⟨gt, rfl, rfl⟩ H
  refine q_tri H (BNew_real (some ⟨gt, 0, none⟩) _) ?_; clear H; rintro _ _ w ⟨g1, s1, m1, l1, rfl, rfl⟩ H
  refine go_W H ?_; clear H; intro w H
  refine q_buildB1 (b := key) ?_
  have hk : ((List.replicate 32 0).set 0 key).length = 32 := by simp
  generalize (List.replicate 32 0).set 0 key = k at *
  have hkl : (bs k).length = 32 := by rw [bs_length, hk]
  have SE := fun g p x1 x2 x3 w => Seal_real g k n av bv ad b p x1 x2 x3 w hk (by omega) (by omega) (by omega)
  have OP := fun g p x1 x2 x3 v w (h : (aseal k (nonce n) ad b).length ≤ 100000) => Open_real g k n av v ad (aseal k (nonce n) ad b) p x1 x2 x3 w hk (by omega) (by omega) h
  rw [aopen_aseal] at OP
  have hsl : (aseal k (nonce n) ad b).length ≤ 100000 := by unfold aseal; rw [List.length_append, amark_length, xorC_length]; omega
  generalize aseal k (nonce n) ad b = sc at *
  refine q_alloc H ?_; clear H; intro gk w H
  refine go_W H ?_; clear H; intro w H
  refine q_triR H (SE g1 _ _ _ _ _) ?_; clear H; rintro vc _ w rfl H
  refine go_W H ?_; clear H; intro w H
  refine q_triR H (OP g1 _ _ _ _ vc _ hsl) ?_; clear H; rintro _ _ w ⟨_, (⟨h, -, -⟩ | ⟨b', vo, h, rfl, rfl⟩), rfl⟩ H
  · cases h
  obtain rfl : b = b' := by injection h
  refine go_W H ?_; clear H; intro w H
  refine q_str (H.rbR (v := vo) (by (repeat (first | exact Take.z | apply Take.s)); done)) ?_
  refine go_W H ?_; clear H; intro w H
  refine q_str (hb.no H.fr) ?_
  refine go_W H ?_; clear H; intro w H
  exact ret1 rfl rv_tmp ⟨rfl, H.fr⟩
set_option maxRecDepth 100000 in
set_option maxHeartbeats 4000000 in
theorem BoxOpens_ideal (key : UInt8) (n : Int) (av0 bv0 : Value) (ad0 b0 : List UInt8) (how : Int) (x : UInt8) (W : World) (ha0 : RB W av0 ad0) (hb0 : RB W bv0 b0) (hn0 : -9223372036854775808 ≤ n) (hn' : n ≤ 9223372036854775807) :
    Calls Try.prog 4 #[.bool true, .int .u8 (by8 key), .int .i64 n, av0, bv0, .int .i64 how, .int .u8 (by8 x)] W fun e w' => e = .returned (.bool true) ∧ No W w' := by
  have H := St.nil (fun _ => False) W
  refine q_enter Try.func4 rfl rfl ?_
  refine go_W H ?_; clear H; intro w H
  refine q_call (begun8_any _) ?_; rintro _ w1 ⟨rfl, hNo⟩; replace H := H.no hNo; clear hNo; refine ⟨_, rfl, ?_⟩
  refine go_W H ?_; clear H; intro w H
  refine q_call (Short_any av0 ad0 20 _ (ha0.no H.fr)) ?_; rintro _ w1 ⟨av, rfl, ha, -, hNo⟩; replace H := H.no hNo; clear hNo; refine ⟨_, rfl, ?_⟩
  refine go_W H ?_; clear H; intro w H
  refine q_call (Short_any bv0 b0 60 _ (hb0.no H.fr)) ?_; rintro _ w2 ⟨bv, rfl, hb, -, hNo⟩; replace H := H.no hNo; clear hNo; refine ⟨_, rfl, ?_⟩
  replace ha := ha _ ha0
  replace hb := hb _ hb0
  have hal : (ad0.take 20).length ≤ 20 := by rw [List.length_take]; omega
  have hbl : (b0.take 60).length ≤ 60 := by rw [List.length_take]; omega
  generalize ad0.take 20 = ad at *
  generalize b0.take 60 = b at *
  clear ha0 hb0
  by_cases hn : n < 0
  · refine go_W H ?_; clear H; intro w H
    exact ret1 rfl rv_tmp ⟨rfl, H.fr⟩
  by_cases hm : n = 9223372036854775807
  · refine go_W H ?_; clear H; intro w H
    exact ret1 rfl rv_tmp ⟨rfl, H.fr⟩
  refine go_W H ?_; clear H; intro w H
  refine q_tri H (TNew_any n _) ?_; clear H; rintro _ _ w ⟨gt, rfl, rfl⟩ H
  refine q_tri H (BNew_ideal ⟨gt, 0, none⟩ _) ?_; clear H; rintro _ _ w ⟨gx, gs, gm, gl, rfl, rfl⟩ H
  have B0 := BOk.new n (by omega)
  replace H : St _ _ (BXl gx gt gs gm gl n 0 0 (.slice none 0 0) [] [] []) _ := H.sub (by repeat (first | exact Sub.nil | apply Sub.cons | exact Take.z | apply Take.s))
  refine go_W H ?_; clear H; intro w H
  refine q_buildB1 (b := key) ?_
  have hk : ((List.replicate 32 0).set 0 key).length = 32 := by simp
  have hk1 : ((List.replicate 32 0).set 0 key) ≠ ((List.replicate 32 0).set 0 key).set 1 1 := fun e => by
    have e1 : (((List.replicate 32 0).set 0 key).set 1 1)[1]? = some 1 := by simp
    rw [← e] at e1
    simp at e1
  have hk2 : (((List.replicate 32 0).set 0 key).set 1 1).length = 32 := by simp
  have KB : ∀ {P n Q ρ w} {ops : Array Oper} {rest : List Oper} {d t : Nat} {T p af gd e} {x : Operand} [ArrOf P t 32 e 1] [ZeroOf P t (bs (List.replicate 32 0))], LW P n ops Q rest (upd ρ d (.agg (bs (((List.replicate 32 0).set 0 key).set 1 1)).toArray)) w → ev ρ x = .int .u8 (by8 key) → Nat.blt d n = true → Wanted ops ρ gd →
      LW P n ops Q (⟨some d, .build t #[(0, x), (1, .const (.int .u8 1))], T, p, af, gd⟩ :: rest) ρ w := fun h hx hd hw => q_buildB2 (b := key) (c := 1) h hx rfl (by decide) (by decide) hd hw
  generalize ((List.replicate 32 0).set 0 key).set 1 1 = k2 at *
  generalize (List.replicate 32 0).set 0 key = k at *
  have hkl : (bs k).length = 32 := by rw [bs_length, hk]
  refine q_alloc H ?_; clear H; intro gk w H
  refine go_W H ?_; clear H; intro w H
  refine q_triR H (Seal_ideal 0 gx gt gs gm gl n 0 0 (.slice none 0 0) [] [] [] k n av bv ad b _ B0 (by omega) hk (by omega) (by omega) (by omega) (by omega)) ?_; clear H; rintro vc _ w ⟨i1, v1, B1, rfl⟩ H
  have hcl := tp_length n 0 (b.length + 16)
  generalize tp n 0 (b.length + 16) = c at *
  obtain ⟨ca, cc, rfl⟩ := RB.val (H.rbB (v := vc) (by (repeat (first | exact Take.z | apply Take.s)); done))
  refine go_W H ?_; clear H; intro w H
  refine q_triR H (Open_ideal _ gx gt gs gm gl n i1 _ v1 _ [] [] k n av (.slice ca c.length cc) ad c _ B1 hk (by omega) (by omega) (by omega) (by omega)) ?_; clear H; rintro _ _ w ⟨_, ho, rfl⟩ H
  have hyes : mget (mput ([] : List (SK × List UInt8)) (k, n, ad, c) b) (k, n, ad, c) = some b := by rw [mget_mput, if_pos rfl]
  rw [hyes] at ho
  rcases ho with ⟨h, -, -⟩ | ⟨b', vo, h, rfl, rfl⟩
  · cases h
  obtain rfl : b = b' := by injection h
  refine go_W H ?_; clear H; intro w H
  refine q_str (H.rbR (v := vo) (by (repeat (first | exact Take.z | apply Take.s)); done)) ?_
  refine go_W H ?_; clear H; intro w H
  refine q_str (hb.no H.fr) ?_
  refine go_W H ?_; clear H; intro w H
  replace H : St _ _ (cells gk (bs k) 34 :: bsl (.slice ca c.length cc) c :: BXl gx gt gs gm gl n i1 (0 + (b.length + 16)) v1 (mput [] (k, n, ad, c) b) [] []) _ := H.sub (by repeat (first | exact Sub.nil | apply Sub.cons | exact Take.z | apply Take.s))
  refine q_int ?_ (run_binop_bits (.inl rfl) rfl) rfl rfl
  generalize bits .and .i64 how 3 = r
  have hget : ∀ K : SK, K ≠ (k, n, ad, c) → mget (mput ([] : List (SK × List UInt8)) (k, n, ad, c) b) K = none := fun K h => by rw [mget_mput, if_neg h]; rfl
  refine go_W H ?_; clear H; intro w H
  by_cases h0 : r = 0
  · refine go_W H ?_; clear H; intro w H
    refine KB ?_ rfl rfl .none
    refine go_W H ?_; clear H; intro w H
    refine q_triR H (Open_ideal _ gx gt gs gm gl n i1 _ v1 _ [] [] k2 n av (.slice ca c.length cc) ad c _ B1 hk2 (by omega) (by omega) (by omega) (by omega)) ?_; clear H; rintro _ _ w ⟨_, ho, rfl⟩ H
    rw [hget _ (fun e => hk1 (congrArg Prod.fst e).symm)] at ho
    rcases ho with ⟨-, rfl, rfl⟩ | ⟨b', vo, h, -, -⟩
    rotate_left
    · cases h
    refine go_W H ?_; clear H; intro w H
    exact ret1 rfl rv_tmp ⟨rfl, H.fr⟩
  refine go_W H ?_; clear H; intro w H
  by_cases h1 : r = 1
  · refine go_W H ?_; clear H; intro w H
    refine q_triR H (Open_ideal _ gx gt gs gm gl n i1 _ v1 _ [] [] k (n + 1) av (.slice ca c.length cc) ad c _ B1 hk (by omega) (by omega) (by omega) (by omega)) ?_; clear H; rintro _ _ w ⟨_, ho, rfl⟩ H
    rw [hget _ (fun e => by have := congrArg (fun x => x.2.1) e; dsimp only at this; omega)] at ho
    rcases ho with ⟨-, rfl, rfl⟩ | ⟨b', vo, h, -, -⟩
    rotate_left
    · cases h
    refine go_W H ?_; clear H; intro w H
    exact ret1 rfl rv_tmp ⟨rfl, H.fr⟩
  refine go_W H ?_; clear H; intro w H
  by_cases h2 : r = 2
  · refine go_W H ?_; clear H; intro w H
    replace H := H.drew
    refine r_start (Hold2 [(gk, .cells (bs k).toArray 34 (0, 0))] []) 14 rfl holdS ?_
    refine r_takeX 0 ?_; refine r_takeX 1 ?_; refine r_takeX 2 ?_; refine r_takeX 3 ?_; refine r_takeX 5 ?_; refine r_takeX 8 ?_
    refine r_two 4 6 rfl rfl ?_ ?_
    · refine q_appR H.nilB (ha.no H.fr) ?_; clear H; intro v2 w H _
      rw [List.nil_append] at H
      refine q_nil ?_; refine r_nextS ?_
      refine r_op 6 rfl ?_
      (refine q_side1 H ?_; clear H; intro g w H)
      refine q_nil ?_; refine r_nextS ?_
      refine r_op 7 rfl ?_
      refine q_appT H ?_; clear H; intro v3 w H
      refine q_nil ?_; refine r_nextS ?_
      refine r_op 9 rfl ?_
      refine q_triR H (Open_ideal _ gx gt gs gm gl n i1 _ v1 _ [] [] k n v3 (.slice ca c.length cc) (ad ++ [x]) c _ B1 hk (by omega) (by omega) (by simp; omega) (by omega)) ?_; clear H; rintro _ _ w ⟨_, ho, rfl⟩ H
      rw [hget _ (fun e => by have := congrArg (fun x => x.2.2.1.length) e; simp at this)] at ho
      rcases ho with ⟨-, rfl, rfl⟩ | ⟨b', vo, h, -, -⟩
      rotate_left
      · cases h
      refine q_nil ?_; refine r_nextS ?_
      refine r_takeX 10 ?_; refine r_takeX 11 ?_; refine r_takeX 12 ?_; refine r_takeX 13 ?_
      refine r_done ?_
      refine go_W H ?_; clear H; intro w H
      exact ret1 rfl rv_tmp ⟨rfl, H.fr⟩
    · (refine q_side1 H ?_; clear H; intro g w H)
      refine q_nil ?_; refine r_nextS ?_
      refine r_op 4 rfl ?_
      refine q_appR H.nilB (ha.no H.fr) ?_; clear H; intro v2 w H _
      rw [List.nil_append] at H
      refine q_nil ?_; refine r_nextS ?_
      refine r_op 7 rfl ?_
      refine q_appT H ?_; clear H; intro v3 w H
      refine q_nil ?_; refine r_nextS ?_
      refine r_op 9 rfl ?_
      refine q_triR H (Open_ideal _ gx gt gs gm gl n i1 _ v1 _ [] [] k n v3 (.slice ca c.length cc) (ad ++ [x]) c _ B1 hk (by omega) (by omega) (by simp; omega) (by omega)) ?_; clear H; rintro _ _ w ⟨_, ho, rfl⟩ H
      rw [hget _ (fun e => by have := congrArg (fun x => x.2.2.1.length) e; simp at this)] at ho
      rcases ho with ⟨-, rfl, rfl⟩ | ⟨b', vo, h, -, -⟩
      rotate_left
      · cases h
      refine q_nil ?_; refine r_nextS ?_
      refine r_takeX 10 ?_; refine r_takeX 11 ?_; refine r_takeX 12 ?_; refine r_takeX 13 ?_
      refine r_done ?_
      refine go_W H ?_; clear H; intro w H
      exact ret1 rfl rv_tmp ⟨rfl, H.fr⟩
  · refine go_W H ?_; clear H; intro w H
    replace H := H.drew
    refine r_start (Hold2 [(gk, .cells (bs k).toArray 34 (0, 0))] []) 14 rfl holdS ?_
    refine r_takeX 0 ?_; refine r_takeX 1 ?_; refine r_takeX 2 ?_; refine r_takeX 3 ?_; refine r_takeX 4 ?_; refine r_takeX 6 ?_
    refine r_two 5 7 rfl rfl ?_ ?_
    · refine q_appR H.nilB (H.rbB (v := .slice ca c.length cc) (by (repeat (first | exact Take.z | apply Take.s)); done)) ?_; clear H; intro v2 w H _
      rw [List.nil_append] at H
      refine q_nil ?_; refine r_nextS ?_
      refine r_op 7 rfl ?_
      (refine q_side1 H ?_; clear H; intro g w H)
      refine q_nil ?_; refine r_nextS ?_
      refine r_op 8 rfl ?_
      refine q_appT H ?_; clear H; intro v3 w H
      refine q_nil ?_; refine r_nextS ?_
      refine r_op 9 rfl ?_
      refine q_triR H (Open_ideal _ gx gt gs gm gl n i1 _ v1 _ [] [] k n av v3 ad (c ++ [x]) _ B1 hk (by omega) (by omega) (by omega) (by simp; omega)) ?_; clear H; rintro _ _ w ⟨_, ho, rfl⟩ H
      rw [hget _ (fun e => by have := congrArg (fun x => x.2.2.2.length) e; simp at this)] at ho
      rcases ho with ⟨-, rfl, rfl⟩ | ⟨b', vo, h, -, -⟩
      rotate_left
      · cases h
      refine q_nil ?_; refine r_nextS ?_
      refine r_takeX 10 ?_; refine r_takeX 11 ?_; refine r_takeX 12 ?_; refine r_takeX 13 ?_
      refine r_done ?_
      refine go_W H ?_; clear H; intro w H
      exact ret1 rfl rv_tmp ⟨rfl, H.fr⟩
    · (refine q_side1 H ?_; clear H; intro g w H)
      refine q_nil ?_; refine r_nextS ?_
      refine r_op 5 rfl ?_
      refine q_appR H.nilB (H.rbB (v := .slice ca c.length cc) (by (repeat (first | exact Take.z | apply Take.s)); done)) ?_; clear H; intro v2 w H _
      rw [List.nil_append] at H
      refine q_nil ?_; refine r_nextS ?_
      refine r_op 8 rfl ?_
      refine q_appT H ?_; clear H; intro v3 w H
      refine q_nil ?_; refine r_nextS ?_
      refine r_op 9 rfl ?_
      refine q_triR H (Open_ideal _ gx gt gs gm gl n i1 _ v1 _ [] [] k n av v3 ad (c ++ [x]) _ B1 hk (by omega) (by omega) (by omega) (by simp; omega)) ?_; clear H; rintro _ _ w ⟨_, ho, rfl⟩ H
      rw [hget _ (fun e => by have := congrArg (fun x => x.2.2.2.length) e; simp at this)] at ho
      rcases ho with ⟨-, rfl, rfl⟩ | ⟨b', vo, h, -, -⟩
      rotate_left
      · cases h
      refine q_nil ?_; refine r_nextS ?_
      refine r_takeX 10 ?_; refine r_takeX 11 ?_; refine r_takeX 12 ?_; refine r_takeX 13 ?_
      refine r_done ?_
      refine go_W H ?_; clear H; intro w H
      exact ret1 rfl rv_tmp ⟨rfl, H.fr⟩
theorem BoxOpens_walk (ideal : Bool) (key : UInt8) (n : Int) (av0 bv0 : Value) (ad0 b0 : List UInt8) (how : Int) (x : UInt8) (W : World) (ha0 : RB W av0 ad0) (hb0 : RB W bv0 b0) (hn : -9223372036854775808 ≤ n ∧ n ≤ 9223372036854775807) :
    Calls Try.prog 4 #[.bool ideal, .int .u8 (by8 key), .int .i64 n, av0, bv0, .int .i64 how, .int .u8 (by8 x)] W fun e w' => e = .returned (.bool true) ∧ No W w' := by
  cases ideal
  · exact BoxOpens_real key n av0 bv0 ad0 b0 how x W ha0 hb0 hn.1 hn.2
  · exact BoxOpens_ideal key n av0 bv0 ad0 b0 how x W ha0 hb0 hn.1 hn.2
end Go.Proofs.Ytamkekmaahnbcaa
