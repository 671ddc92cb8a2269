/-
  box: what a box is; New. box: Seal. box: Open. box: noted, Mark, Label. box: Mark, Label. box: Label, Is.
-/
import Derived.Test.YtbdkicmdidcdcaaZL
import Derived.Test.YtbdkicmdidcdcaaZK
import Derived.Test.YtbdkicmdidcdcaaZD
import Derived.Test.YtbdkicmdidcdcaaZI
namespace Go.Proofs.Ytbdkicmdidcdcaa
open Go.RowKit

abbrev SK : Type := List UInt8 × Int × List UInt8 × List UInt8
abbrev MK : Type := List UInt8 × List UInt8
/-- How keys lie in memory. -/
def κs (k : SK) : Value := .agg (bs k.1 ++ [Value.int .i64 k.2.1, .string (str k.2.2.1), .string (str k.2.2.2)]).toArray
def κm (k : MK) : Value := .agg (bs k.1 ++ [Value.string (str k.2)]).toArray
def νs (b : List UInt8) : Value := .string (str b)
def νm (b : List UInt8) : Value := .agg (bs b).toArray
theorem bs_inj : ∀ {l m : List UInt8}, bs l = bs m → l = m
  | [], [], _ => rfl
  | [], _ :: _, h => by simp [bs] at h
  | _ :: _, [], h => by simp [bs] at h
  | a :: l, b :: m, h => by
    simp only [bs, List.map_cons, List.cons.injEq] at h
    obtain ⟨h1, h2⟩ := h
    have h3 : by8 a = by8 b := by simpa using h1
    have h4 : a = b := UInt8.toNat_inj.1 (by unfold by8 at h3; omega)
    rw [h4, bs_inj (show bs l = bs m from h2)]
theorem agg_inj {l m : List Value} (h : Value.agg l.toArray = .agg m.toArray) : l = m := by simpa using h
theorem κs_inj (a b : SK) (h : κs a = κs b) : a = b := by
  obtain ⟨k, n, ad, c⟩ := a
  obtain ⟨k', n', ad', c'⟩ := b
  have := agg_inj h
  obtain ⟨h1, h2⟩ := List.append_inj' this rfl
  simp only [List.cons.injEq, Value.int.injEq, Value.string.injEq, true_and, and_true] at h2
  obtain ⟨h3, h4, h5⟩ := h2
  rw [show k = k' from bs_inj h1, h3, str_inj h4, str_inj h5]
theorem κm_inj (a b : MK) (h : κm a = κm b) : a = b := by
  obtain ⟨k, c⟩ := a
  obtain ⟨k', c'⟩ := b
  have := agg_inj h
  obtain ⟨h1, h2⟩ := List.append_inj' this rfl
  simp only [List.cons.injEq, Value.string.injEq, and_true] at h2
  rw [show k = k' from bs_inj h1, str_inj h2]
theorem κs_ok (k : List UInt8) (n : Int) (ad c : List UInt8) (hk : k.length = 32) (h0 : -9223372036854775808 ≤ n) (h1 : n ≤ 9223372036854775807) (ha : ad.length ≤ 1000000) (hc : c.length ≤ 1000000) : Kv Try.prog 88 (κs (k, n, ad, c)) := by
  refine Kv_rec [bs k, [.int .i64 n], [.string (str ad)], [.string (str c)]] _ (by simp) ?_ (by simp [bs_length])
  exact (fun D => ⟨kl_bytes (D + 3) k hk, by rw [bs_length, hk]; simp [bs_length], kl_i64 _ n h0 h1, rfl, kl_str _ _ (by rw [str_size]; unfold maxLen; omega), rfl, kl_str _ _ (by rw [str_size]; unfold maxLen; omega), rfl, trivial⟩)
theorem κm_ok (k b : List UInt8) (hk : k.length = 32) (hb : b.length ≤ 1000000) : Kv Try.prog 110 (κm (k, b)) := by
  refine Kv_rec [bs k, [.string (str b)]] _ (by simp) ?_ (by simp [bs_length])
  exact (fun D => ⟨kl_bytes (D + 3) k hk, by rw [bs_length, hk]; simp [bs_length], kl_str _ _ (by rw [str_size]; unfold maxLen; omega), rfl, trivial⟩)
theorem lawS : Maps.Keyed Try.prog 88 := DeepOf.law
theorem lawM : Maps.Keyed Try.prog 110 := DeepOf.law

set_option maxRecDepth 100000 in
theorem BNew_real (pa : Option Addr) (w : World) : Tri Try.prog 31 [.int .i64 0, .pointer pa] [] w fun v L => ∃ g gs gm gl, v = .pointer (some ⟨g, 0, none⟩) ∧
    L = [cells g [.int .i64 0, .pointer pa, .map (some gs), .map (some gm), .map (some gl)] 74, .pt gl (.map #[] 0), .pt gm (.map #[] 0), .pt gs (.map #[] 0)] := by
  refine Tri.pure fun H => ?_
  refine q_enter Try.func31 rfl rfl ?_
  refine go_W H ?_; clear H; intro w H
  refine q_makeMap H ?_; clear H; intro gs w H
  refine go_W H ?_; clear H; intro w H
  refine q_makeMap H ?_; clear H; intro gm w H
  refine go_W H ?_; clear H; intro w H
  refine q_makeMap H ?_; clear H; intro gl w H
  refine go_W H ?_; clear H; intro w H
  refine q_build [[.int .i64 0], [.pointer pa], [.map (some gs)], [.map (some gm)], [.map (some gl)]] [.int .i64 0, .pointer pa, .map (some gs), .map (some gm), .map (some gl)] ?_
  refine go_W H ?_; clear H; intro w H
  refine q_box H ?_; clear H; intro g w H
  refine go_W H ?_; clear H; intro w H
  exact ret1 rfl rv_tmp ⟨_, _, rfl, ⟨_, _, _, _, rfl, rfl⟩, H⟩
set_option maxRecDepth 100000 in
theorem BNew_ideal (a : Addr) (w : World) : Tri Try.prog 31 [.int .i64 1, .pointer (some a)] [] w fun v L => ∃ g gs gm gl, v = .pointer (some ⟨g, 0, none⟩) ∧
    L = [cells g [.int .i64 1, .pointer (some a), .map (some gs), .map (some gm), .map (some gl)] 74, .pt gl (.map #[] 0), .pt gm (.map #[] 0), .pt gs (.map #[] 0)] := by
  refine Tri.pure fun H => ?_
  refine q_enter Try.func31 rfl rfl ?_
  refine go_W H ?_; clear H; intro w H
  refine q_makeMap H ?_; clear H; intro gs w H
  refine go_W H ?_; clear H; intro w H
  refine q_makeMap H ?_; clear H; intro gm w H
  refine go_W H ?_; clear H; intro w H
  refine q_makeMap H ?_; clear H; intro gl w H
  refine go_W H ?_; clear H; intro w H
  refine q_build [[.int .i64 1], [.pointer (some a)], [.map (some gs)], [.map (some gm)], [.map (some gl)]] [.int .i64 1, .pointer (some a), .map (some gs), .map (some gm), .map (some gl)] ?_
  refine go_W H ?_; clear H; intro w H
  refine q_box H ?_; clear H; intro g w H
  refine go_W H ?_; clear H; intro w H
  exact ret1 rfl rv_tmp ⟨_, _, rfl, ⟨_, _, _, _, rfl, rfl⟩, H⟩
set_option maxRecDepth 100000 in
theorem BNew_nil (w : World) : Calls Try.prog 31 #[.int .i64 1, .pointer none] w fun e w' => e = .returned (.pointer none) ∧ No w w' := by
  have H := St.nil (fun _ => False) w
  refine q_enter Try.func31 rfl rfl ?_
  refine go_W H ?_; clear H; intro w H
  exact ret1 rfl rv_tmp ⟨rfl, H.fr⟩
set_option maxRecDepth 100000 in
theorem BNew_two (pa : Option Addr) (w : World) : Calls Try.prog 31 #[.int .i64 2, .pointer pa] w fun e w' => e = .returned (.pointer none) ∧ No w w' := by
  have H := St.nil (fun _ => False) w
  refine q_enter Try.func31 rfl rfl ?_
  refine go_W H ?_; clear H; intro w H
  exact ret1 rfl rv_tmp ⟨rfl, H.fr⟩
end Go.Proofs.Ytbdkicmdidcdcaa
namespace Go.Proofs.Ytbdkicmdidcdcaa
open Go.RowKit

abbrev BC (_gx gt gs gm gl : Nat) : List Value := [.int .i64 1, .pointer (some ⟨gt, 0, none⟩), .map (some gs), .map (some gm), .map (some gl)]
abbrev BXl (gx gt gs gm gl : Nat) (s : Int) (i at' : Nat) (v : Value) (Ms : List (SK × List UInt8)) (Mm Ml : List (MK × List UInt8)) : List Res :=
  [cells gx (BC gx gt gs gm gl) 74, cells gt [.int .i64 s, .int .i64 i, v] 76, bsl v (tleft s i at'), .pt gs (mapE κs νs Ms), .pt gm (mapE κm νm Mm), .pt gl (mapE κm νm Ml)]
theorem mput_mem {K V : Type} [DecidableEq K] : ∀ (M : List (K × V)) (k : K) (v : V) (p : K × V), p ∈ mput M k v → p = (k, v) ∨ p ∈ M
  | [], k, v, p, h => by simp [mput] at h; simp [h]
  | (a, b) :: M, k, v, p, h => by
    unfold mput at h
    split at h
    · rcases List.mem_cons.1 h with rfl | h
      · exact .inl rfl
      · exact .inr (List.mem_cons_of_mem _ h)
    · rcases List.mem_cons.1 h with rfl | h
      · exact .inr (by simp)
      · exact (mput_mem M k v p h).imp id (List.mem_cons_of_mem _)
/-- What is always so of an ideal box, c operations old. -/
structure BOk (c : Nat) (s : Int) (i at' : Nat) (Ms : List (SK × List UInt8)) (Mm Ml : List (MK × List UInt8)) : Prop where
  cc : c ≤ 10000
  s : -9223372036854775808 ≤ s ∧ s ≤ 9223372036854775807
  lo : at' ≤ 32 * i
  hi : 32 * i ≤ at' + 32
  at_ : at' ≤ 4000 * c
  ls : Ms.length ≤ c
  lm : Mm.length ≤ c
  ll : Ml.length ≤ c
  ms : MOk Try.prog 88 κs Ms
  mm : MOk Try.prog 110 κm Mm
  ml : MOk Try.prog 110 κm Ml
  vs : ∀ p ∈ Ms, p.2.length ≤ 3000
  vm : ∀ p ∈ Mm, p.2.length = 32
  vl : ∀ p ∈ Ml, p.2.length = 32
theorem BOk.new (s : Int) (h : -9223372036854775808 ≤ s ∧ s ≤ 9223372036854775807) : BOk 0 s 0 0 [] [] [] :=
  ⟨by omega, h, by omega, by omega, by omega, by simp, by simp, by simp, MOk.nil κs_inj, MOk.nil κm_inj, MOk.nil κm_inj, fun _ h => (List.not_mem_nil h).elim, fun _ h => (List.not_mem_nil h).elim, fun _ h => (List.not_mem_nil h).elim⟩

set_option maxRecDepth 100000 in
theorem Seal_nil (key : List UInt8) (n : Int) (av bv : Value) (w : World) (_hk : key.length = 32) :
    Calls Try.prog 45 #[.pointer none, .agg (bs key).toArray, .int .i64 n, av, bv] w fun e w' => e = .returned (.slice none 0 0) ∧ No w w' := by
  have H := St.nil (fun _ => False) w
  refine q_enter Try.func45 rfl rfl ?_
  refine go_W H ?_; clear H; intro w H
  refine q_box H ?_; clear H; intro gk w H
  refine go_W H ?_; clear H; intro w H
  exact ret1 rfl rv_tmp ⟨rfl, H.fr⟩
set_option maxRecDepth 100000 in
theorem Seal_neg (a : Addr) (key : List UInt8) (n : Int) (av bv : Value) (w : World) (_hk : key.length = 32) (hn : n < 0) :
    Calls Try.prog 45 #[.pointer (some a), .agg (bs key).toArray, .int .i64 n, av, bv] w fun e w' => e = .returned (.slice none 0 0) ∧ No w w' := by
  have H := St.nil (fun _ => False) w
  refine q_enter Try.func45 rfl rfl ?_
  refine go_W H ?_; clear H; intro w H
  refine q_box H ?_; clear H; intro gk w H
  refine go_W H ?_; clear H; intro w H
  exact ret1 rfl rv_tmp ⟨rfl, H.fr⟩
theorem nonce_length (n : Int) : (nonce n).length = 12 := rfl
set_option maxRecDepth 100000 in
set_option maxHeartbeats 1000000 in
theorem Seal_real (gx : Nat) (key : List UInt8) (n : Int) (av bv : Value) (ad b : List UInt8) (p : Value) (m1 m2 m3 : Value) (W : World) (hk : key.length = 32) (hn : 0 ≤ n) (hal : ad.length ≤ 100000) (hbl : b.length ≤ 100000) :
    TriR Try.prog 45 [.pointer (some ⟨gx, 0, none⟩), .agg (bs key).toArray, .int .i64 n, av, bv] [(av, ad), (bv, b)] [cells gx [.int .i64 0, p, m1, m2, m3] 74] W fun v L =>
      L = [bsl v (aseal key (nonce n) ad b), cells gx [.int .i64 0, p, m1, m2, m3] 74] := by
  refine TriR.of fun F ⟨⟨ha, hna⟩, ⟨hb, hnb⟩, _⟩ H => ?_
  have hkl : (bs key).length = 32 := by rw [bs_length, hk]
  have SE := fun w (ha : RB w av ad) (hb : RB w bv b) => seal_any key (nonce n) av bv ad b w hk (nonce_length n) ha hb hal hbl
  generalize aseal key (nonce n) ad b = sb at SE ⊢
  have BB := bbytes_any n
  have hnl := nonce_length n
  generalize nonce n = nn at BB SE hnl
  refine q_enter Try.func45 rfl rfl ?_
  refine go_W H ?_; clear H; intro w H
  refine q_box H ?_; clear H; intro gk w H
  refine go_W H ?_; clear H; intro w H
  replace H := H.drew
  refine r_start (Hold [(gk, .cells (bs key).toArray 26 (0, 0))]) 7 rfl holdS ?_
  refine r_takeX 0 ?_; refine r_takeX 1 ?_; refine r_takeX 3 ?_; refine r_takeX 4 ?_
  refine r_op 2 rfl ?_
  refine q_call (BB _) ?_; rintro _ w1 ⟨rfl, hNo⟩; replace H := H.no hNo; clear hNo; refine ⟨_, rfl, ?_⟩
  refine q_nil ?_; refine r_nextS ?_
  refine r_op 5 rfl ?_
  refine q_tri H (SE _ (H.rb ha hna) (H.rb hb hnb)) ?_; clear H; rintro v1 _ w rfl H
  refine q_nil ?_; refine r_nextS ?_
  refine r_takeX 6 ?_
  refine r_done ?_
  refine go_W H ?_; clear H; intro w H
  exact ret1 rfl rv_tmp ⟨_, _, rfl, rfl, H.sub (by repeat (first | exact Sub.nil | apply Sub.cons | exact Take.z | apply Take.s))⟩
set_option maxRecDepth 100000 in
set_option maxHeartbeats 1000000 in
theorem Seal_long (gx : Nat) (key : List UInt8) (n : Int) (av bv : Value) (b : List UInt8) (p : Value) (m1 m2 m3 : Value) (W : World) (hk : key.length = 32) (hn : 0 ≤ n) (hbl : 3000 < b.length) :
    TriR Try.prog 45 [.pointer (some ⟨gx, 0, none⟩), .agg (bs key).toArray, .int .i64 n, av, bv] [(bv, b)] [cells gx [.int .i64 1, p, m1, m2, m3] 74] W fun v L =>
      v = .slice none 0 0 ∧ L = [cells gx [.int .i64 1, p, m1, m2, m3] 74] := by
  refine TriR.of fun F ⟨⟨hb, hnb⟩, _⟩ H => ?_
  have hkl : (bs key).length = 32 := by rw [bs_length, hk]
  obtain ⟨ba, bc, rfl⟩ := hb.val
  refine q_enter Try.func45 rfl rfl ?_
  refine go_W H ?_; clear H; intro w H
  refine q_box H ?_; clear H; intro gk w H
  refine go_W H ?_; clear H; intro w H
  exact ret1 rfl rv_tmp ⟨_, _, rfl, ⟨rfl, rfl⟩, H.sub (by repeat (first | exact Sub.nil | apply Sub.cons | exact Take.z | apply Take.s))⟩
set_option maxRecDepth 100000 in
set_option maxHeartbeats 2000000 in
theorem Seal_ideal (c gx gt gs gm gl : Nat) (s : Int) (i at' : Nat) (v : Value) (Ms : List (SK × List UInt8)) (Mm Ml : List (MK × List UInt8)) (key : List UInt8) (n : Int) (av bv : Value) (ad b : List UInt8) (W : World) (hB : BOk c s i at' Ms Mm Ml) (hc : c < 10000)
    (hk : key.length = 32) (hn : 0 ≤ n) (hn' : n ≤ 9223372036854775807) (hal : ad.length ≤ 100000) (hbl : b.length ≤ 3000) :
    TriR Try.prog 45 [.pointer (some ⟨gx, 0, none⟩), .agg (bs key).toArray, .int .i64 n, av, bv] [(av, ad), (bv, b)] (BXl gx gt gs gm gl s i at' v Ms Mm Ml) W fun u L =>
      ∃ i' v', BOk (c + 1) s i' (at' + (b.length + 16)) (mput Ms (key, n, ad, tp s at' (b.length + 16)) b) Mm Ml ∧
        L = bsl u (tp s at' (b.length + 16)) :: BXl gx gt gs gm gl s i' (at' + (b.length + 16)) v' (mput Ms (key, n, ad, tp s at' (b.length + 16)) b) Mm Ml := by
  refine TriR.of fun F ⟨⟨ha, hna⟩, ⟨hb, hnb⟩, _⟩ H => ?_
  have hkl : (bs key).length = 32 := by rw [bs_length, hk]
  obtain ⟨ba, bc, rfl⟩ := hb.val
  obtain ⟨aa, ac, rfl⟩ := ha.val
  have NX := fun W => Next_at gt s i at' v (b.length + 16) W hB.s (by have := hB.hi; have := hB.at_; omega) hB.lo (by have := hB.hi; omega) (by omega)
  have htl := tp_length s at' (b.length + 16)
  have hKs := κs_ok key n ad (tp s at' (b.length + 16)) hk (by omega) hn' (by omega) (by omega)
  generalize tp s at' (b.length + 16) = cb at *
  have hkl' : (bs key).length = (bs (List.replicate 32 0)).length := by rw [hkl]; simp [bs_length]
  refine q_enter Try.func45 rfl rfl ?_
  refine go_W H ?_; clear H; intro w H
  refine q_box H ?_; clear H; intro gk w H
  refine go_W H ?_; clear H; intro w H
  refine q_tri H (NX _) ?_; clear H; rintro v1 _ w ⟨v', i', hi1, hi2, hi3, hi4, rfl⟩ H
  obtain ⟨a1, c1, rfl⟩ := RB.val (H.rbB (v := v1) (by (repeat (first | exact Take.z | apply Take.s)); done))
  refine go_W H ?_; clear H; intro w H
  replace H := H.drew
  refine r_start (Hold2 [(gx, .cells (BC gx gt gs gm gl).toArray 74 (0, 0)), (gk, .cells (bs key).toArray 26 (0, 0))] [(.slice aa ad.length ac, ad), (.slice a1 cb.length c1, cb), (.slice ba b.length bc, b)]) 14 rfl holdS ?_
  refine r_takeX 0 ?_; refine r_takeX 1 ?_; refine r_takeX 2 ?_; refine r_takeX 3 ?_; refine r_takeX 4 ?_; refine r_takeX 5 ?_; refine r_takeX 6 ?_; refine r_takeX 7 ?_; refine r_takeX 8 ?_; refine r_takeX 9 ?_; refine r_takeX 11 ?_; refine r_takeX 12 ?_
  refine r_take 10 rfl rfl (fun w hS => x_build [bs key, [.int .i64 n], [.string (str ad)], [.string (str cb)]] (bs key ++ [.int .i64 n, .string (str ad), .string (str cb)]) (by exact Or.inl ⟨rfl, rfl, hkl', Or.inl ⟨rfl, rfl, rfl, Or.inl ⟨rfl, rfl, rfl, Or.inl ⟨rfl, rfl, rfl, rfl⟩⟩⟩⟩) (by simp)) ?_
  refine r_op 13 rfl ?_
  refine q_mapPut (ν := νs) (v := b) (k := (key, n, ad, cb)) lawS H hB.ms hKs ?_; clear H; intro w H
  refine q_nil ?_; refine r_nextS ?_
  refine r_done ?_
  refine go_W H ?_; clear H; intro w H
  have h1 := hB.hi
  have h2 := hB.at_
  have h3 := hB.ls
  have h4 := mput_length_le (key, n, ad, cb) b Ms
  exact ret1 rfl rv_tmp ⟨_, _, rfl, ⟨i', v', ⟨by omega, hB.s, by omega, by omega, by omega, by omega, by have := hB.lm; omega, by have := hB.ll; omega, hB.ms.put hKs b (by omega), hB.mm, hB.ml, fun p hp => (mput_mem Ms _ _ p hp).elim (fun e => by rw [e]; exact hbl) (hB.vs p), hB.vm, hB.vl⟩, rfl⟩, H.sub (by repeat (first | exact Sub.nil | apply Sub.cons | exact Take.z | apply Take.s))⟩
end Go.Proofs.Ytbdkicmdidcdcaa
namespace Go.Proofs.Ytbdkicmdidcdcaa
open Go.RowKit

def OpenRd (o : Option (List UInt8)) (v : Value) (L : List Res) : Prop :=
  (o = none ∧ v = .tuple #[.slice none 0 0, .bool false] ∧ L = []) ∨ ∃ l v', o = some l ∧ v = .tuple #[v', .bool true] ∧ L = [brd v' l]
set_option maxRecDepth 100000 in
theorem Open_nil (key : List UInt8) (n : Int) (av bv : Value) (w : World) (_hk : key.length = 32) :
    Calls Try.prog 47 #[.pointer none, .agg (bs key).toArray, .int .i64 n, av, bv] w fun e w' => e = .returned (.tuple #[.slice none 0 0, .bool false]) ∧ No w w' := by
  have H := St.nil (fun _ => False) w
  refine q_enter Try.func47 rfl rfl ?_
  refine go_W H ?_; clear H; intro w H
  refine q_box H ?_; clear H; intro gk w H
  refine go_W H ?_; clear H; intro w H
  exact ret2 rfl rv_tmp rv_tmp ⟨rfl, H.fr⟩
set_option maxRecDepth 100000 in
theorem Open_neg (a : Addr) (key : List UInt8) (n : Int) (av bv : Value) (w : World) (_hk : key.length = 32) (hn : n < 0) :
    Calls Try.prog 47 #[.pointer (some a), .agg (bs key).toArray, .int .i64 n, av, bv] w fun e w' => e = .returned (.tuple #[.slice none 0 0, .bool false]) ∧ No w w' := by
  have H := St.nil (fun _ => False) w
  refine q_enter Try.func47 rfl rfl ?_
  refine go_W H ?_; clear H; intro w H
  refine q_box H ?_; clear H; intro gk w H
  refine go_W H ?_; clear H; intro w H
  exact ret2 rfl rv_tmp rv_tmp ⟨rfl, H.fr⟩
set_option maxRecDepth 100000 in
set_option maxHeartbeats 1000000 in
theorem Open_real (gx : Nat) (key : List UInt8) (n : Int) (av cv : Value) (ad c : List UInt8) (p : Value) (m1 m2 m3 : Value) (W : World) (hk : key.length = 32) (hn : 0 ≤ n) (hal : ad.length ≤ 100000) (hcl : c.length ≤ 100000) :
    TriR Try.prog 47 [.pointer (some ⟨gx, 0, none⟩), .agg (bs key).toArray, .int .i64 n, av, cv] [(av, ad), (cv, c)] [cells gx [.int .i64 0, p, m1, m2, m3] 74] W fun v L =>
      ∃ L', OpenRd (aopen key (nonce n) ad c) v L' ∧ L = L' ++ [cells gx [.int .i64 0, p, m1, m2, m3] 74] := by
  refine TriR.of fun F ⟨⟨ha, hna⟩, ⟨hb, hnb⟩, _⟩ H => ?_
  have hkl : (bs key).length = 32 := by rw [bs_length, hk]
  have OP := fun w (ha : RB w av ad) (hb : RB w cv c) => open_any key (nonce n) av cv ad c w hk (nonce_length n) ha hb hal hcl
  generalize aopen key (nonce n) ad c = oo at OP ⊢
  have BB := bbytes_any n
  have hnl := nonce_length n
  generalize nonce n = nn at BB OP hnl
  refine q_enter Try.func47 rfl rfl ?_
  refine go_W H ?_; clear H; intro w H
  refine q_box H ?_; clear H; intro gk w H
  refine go_W H ?_; clear H; intro w H
  replace H := H.drew
  refine r_start (Hold [(gk, .cells (bs key).toArray 26 (0, 0))]) 10 rfl holdS ?_
  refine r_takeX 0 ?_; refine r_takeX 1 ?_; refine r_takeX 3 ?_; refine r_takeX 4 ?_
  refine r_op 2 rfl ?_
  refine q_call (BB _) ?_; rintro _ w1 ⟨rfl, hNo⟩; replace H := H.no hNo; clear hNo; refine ⟨_, rfl, ?_⟩
  refine q_nil ?_; refine r_nextS ?_
  refine r_op 5 rfl ?_
  refine q_tri H (OP _ (H.rb ha hna) (H.rb hb hnb)) ?_; clear H; rintro v1 L1 w (⟨rfl, rfl, rfl⟩ | ⟨l, v2, rfl, rfl, rfl⟩) H
  · refine q_nil ?_; refine r_nextS ?_
    refine r_takeX 6 ?_; refine r_takeX 7 ?_; refine r_takeX 8 ?_; refine r_takeX 9 ?_
    refine r_done ?_
    refine go_W H ?_; clear H; intro w H
    exact ret2 rfl rv_tmp rv_tmp ⟨_, _, rfl, ⟨_, .inl ⟨rfl, rfl, rfl⟩, rfl⟩, H.sub (by repeat (first | exact Sub.nil | apply Sub.cons | exact Take.z | apply Take.s))⟩
  · refine q_nil ?_; refine r_nextS ?_
    refine r_takeX 6 ?_; refine r_takeX 7 ?_; refine r_takeX 8 ?_; refine r_takeX 9 ?_
    refine r_done ?_
    refine go_W H ?_; clear H; intro w H
    exact ret2 rfl rv_tmp rv_tmp ⟨_, _, rfl, ⟨_, .inr ⟨l, v2, rfl, rfl, rfl⟩, rfl⟩, (H.rdOf (fun _ h => h) rfl).sub (by repeat (first | exact Sub.nil | apply Sub.cons | exact Take.z | apply Take.s))⟩
set_option maxRecDepth 100000 in
set_option maxHeartbeats 2000000 in
theorem Open_ideal (c gx gt gs gm gl : Nat) (s : Int) (i at' : Nat) (v : Value) (Ms : List (SK × List UInt8)) (Mm Ml : List (MK × List UInt8)) (key : List UInt8) (n : Int) (av cv : Value) (ad cb : List UInt8) (W : World) (hB : BOk c s i at' Ms Mm Ml)
    (hk : key.length = 32) (hn : 0 ≤ n) (hn' : n ≤ 9223372036854775807) (hal : ad.length ≤ 100000) (hbl : cb.length ≤ 100000) :
    TriR Try.prog 47 [.pointer (some ⟨gx, 0, none⟩), .agg (bs key).toArray, .int .i64 n, av, cv] [(av, ad), (cv, cb)] (BXl gx gt gs gm gl s i at' v Ms Mm Ml) W fun u L =>
      ∃ L', OpenRd (mget Ms (key, n, ad, cb)) u L' ∧ L = L' ++ BXl gx gt gs gm gl s i at' v Ms Mm Ml := by
  refine TriR.of fun F ⟨⟨ha, hna⟩, ⟨hb, hnb⟩, _⟩ H => ?_
  have hkl : (bs key).length = 32 := by rw [bs_length, hk]
  have hkl' : (bs key).length = (bs (List.replicate 32 0)).length := by rw [hkl]; simp [bs_length]
  obtain ⟨ba, bc, rfl⟩ := hb.val
  obtain ⟨aa, ac, rfl⟩ := ha.val
  have hKs := κs_ok key n ad cb hk (by omega) hn' (by omega) (by omega)
  refine q_enter Try.func47 rfl rfl ?_
  refine go_W H ?_; clear H; intro w H
  refine q_box H ?_; clear H; intro gk w H
  refine go_W H ?_; clear H; intro w H
  replace H := H.drew
  refine r_start (Hold2 [(gx, .cells (BC gx gt gs gm gl).toArray 74 (0, 0)), (gk, .cells (bs key).toArray 26 (0, 0))] [(.slice aa ad.length ac, ad), (.slice ba cb.length bc, cb)]) 17 rfl holdS ?_
  refine r_takeX 0 ?_; refine r_takeX 1 ?_; refine r_takeX 2 ?_; refine r_takeX 3 ?_; refine r_takeX 4 ?_; refine r_takeX 5 ?_; refine r_takeX 6 ?_; refine r_takeX 7 ?_; refine r_takeX 8 ?_; refine r_takeX 9 ?_
  refine r_take 10 rfl rfl (fun w hS => x_build [bs key, [.int .i64 n], [.string (str ad)], [.string (str cb)]] (bs key ++ [.int .i64 n, .string (str ad), .string (str cb)]) (by exact Or.inl ⟨rfl, rfl, hkl', Or.inl ⟨rfl, rfl, rfl, Or.inl ⟨rfl, rfl, rfl, Or.inl ⟨rfl, rfl, rfl, rfl⟩⟩⟩⟩) (by simp)) ?_
  refine r_op 11 rfl ?_
  cases hg : mget Ms (key, n, ad, cb) with
  | none =>
    refine q_lookNone (ν := νs) (k := (key, n, ad, cb)) (.string .empty) lawS H hB.ms hKs hg ?_
    refine q_nil ?_; refine r_nextS ?_
    refine r_takeX 12 ?_; refine r_takeX 13 ?_; refine r_takeX 14 ?_; refine r_takeX 15 ?_; refine r_takeX 16 ?_
    refine r_done ?_
    refine go_W H ?_; clear H; intro w H
    exact ret2 rfl rv_tmp rv_tmp ⟨_, _, rfl, ⟨_, .inl ⟨rfl, rfl, rfl⟩, rfl⟩, H.sub (by repeat (first | exact Sub.nil | apply Sub.cons | exact Take.z | apply Take.s))⟩
  | some b =>
    refine q_lookSome (ν := νs) (k := (key, n, ad, cb)) lawS H hB.ms hKs hg ?_
    refine q_nil ?_; refine r_nextS ?_
    refine r_takeX 12 ?_; refine r_takeX 13 ?_; refine r_takeX 14 ?_; refine r_takeX 15 ?_; refine r_takeX 16 ?_
    refine r_done ?_
    refine go_W H ?_; clear H; intro w H
    have hbl : b.length ≤ 3000 := hB.vs _ (mget_mem hg)
    refine q_bytes (sv := str b) H ?_ (hsz := by rw [str_size]; omega); clear H; intro v1 w H _
    rw [str_data] at H
    refine go_W H ?_; clear H; intro w H
    exact ret2 rfl rv_tmp rv_tmp ⟨_, _, rfl, ⟨_, .inr ⟨b, v1, rfl, rfl, rfl⟩, rfl⟩, H.sub (by repeat (first | exact Sub.nil | apply Sub.cons | exact Take.z | apply Take.s))⟩
end Go.Proofs.Ytbdkicmdidcdcaa
namespace Go.Proofs.Ytbdkicmdidcdcaa
open Go.RowKit

theorem over32 (sb : List UInt8) (h : sb.length = 32) : over (List.replicate 32 0) 0 32 sb = sb := by
  unfold over; rw [List.take_zero, List.nil_append, Nat.zero_add, List.drop_of_length_le (by simp; omega), List.append_nil, List.take_of_length_le (by omega)]
set_option maxRecDepth 100000 in
set_option maxHeartbeats 2000000 in
theorem noted_old (gx gb : Nat) (l : List Value) (Mb : List (MK × List UInt8)) (k : MK) (h : List UInt8) (W : World) (hM : MOk Try.prog 110 κm Mb) (hk : Kv Try.prog 110 (κm k)) (hk32 : k.1.length = 32) (hg : mget Mb k = some h) (hl : h.length = 32) :
    Tri Try.prog 72 [.pointer (some ⟨gx, 0, none⟩), .map (some gb), κm k] [cells gx l 74, .pt gb (mapE κm νm Mb)] W fun u L =>
      u = .agg (bs h).toArray ∧ L = [cells gx l 74, .pt gb (mapE κm νm Mb)] := by
  refine Tri.of fun F H => ?_
  have hhl : (bs h).length = 32 := by rw [bs_length, hl]
  have hkl : (bs k.1 ++ [Value.string (str k.2)]).length = 33 := by simp [bs_length, hk32]
  refine q_enter Try.func72 rfl rfl ?_
  refine go_W H ?_; clear H; intro w H
  refine q_box (l := bs k.1 ++ [Value.string (str k.2)]) H ?_; clear H; intro gk w H
  refine go_W H ?_; clear H; intro w H
  refine q_alloc H ?_; clear H; intro g6 w H
  refine go_W H ?_; clear H; intro w H
  refine q_lookSome (ν := νm) (k := k) lawM H hM hk hg ?_
  refine go_W H ?_; clear H; intro w H
  refine q_alloc H ?_; clear H; intro g7 w H
  refine go_W H ?_; clear H; intro w H
  exact ret1 rfl (rv_agg H) ⟨_, _, rfl, ⟨rfl, rfl⟩, H.sub (by repeat (first | exact Sub.nil | apply Sub.cons | exact Take.z | apply Take.s))⟩
set_option maxRecDepth 100000 in
set_option maxHeartbeats 2000000 in
theorem noted_new (gx gt gs gm gl gb : Nat) (s : Int) (i at' : Nat) (v : Value) (Mb : List (MK × List UInt8)) (k : MK) (W : World) (hs : -9223372036854775808 ≤ s ∧ s ≤ 9223372036854775807) (hi : i ≤ 1000000000) (lo : at' ≤ 32 * i) (hi' : 32 * i ≤ at' + 32)
    (hM : MOk Try.prog 110 κm Mb) (hk : Kv Try.prog 110 (κm k)) (hk32 : k.1.length = 32) (hg : mget Mb k = none) :
    Tri Try.prog 72 [.pointer (some ⟨gx, 0, none⟩), .map (some gb), κm k] [cells gx (BC gx gt gs gm gl) 74, cells gt [.int .i64 s, .int .i64 i, v] 76, bsl v (tleft s i at'), .pt gb (mapE κm νm Mb)] W fun u L =>
      ∃ i' v', i ≤ i' ∧ at' + 32 ≤ 32 * i' ∧ 32 * i' ≤ at' + 64 ∧ u = .agg (bs (tp s at' 32)).toArray ∧ L = [cells gx (BC gx gt gs gm gl) 74, cells gt [.int .i64 s, .int .i64 i', v'] 76, bsl v' (tleft s i' (at' + 32)), .pt gb (mapE κm νm (mput Mb k (tp s at' 32)))] := by
  refine Tri.of fun F H => ?_
  have hkl : (bs k.1 ++ [Value.string (str k.2)]).length = 33 := by simp [bs_length, hk32]
  have NX := fun W => Next_at gt s i at' v 32 W hs (by omega) lo (by omega) (by omega)
  have htl := tp_length s at' 32
  generalize tp s at' 32 = cb at *
  have hcl : (bs cb).length = 32 := by rw [bs_length, htl]
  refine q_enter Try.func72 rfl rfl ?_
  refine go_W H ?_; clear H; intro w H
  refine q_box (l := bs k.1 ++ [Value.string (str k.2)]) H ?_; clear H; intro gk w H
  refine go_W H ?_; clear H; intro w H
  refine q_alloc H ?_; clear H; intro g6 w H
  refine go_W H ?_; clear H; intro w H
  refine q_lookNone (ν := νm) (k := k) (.agg (bs (List.replicate 32 0)).toArray) lawM H hM hk hg ?_
  refine go_W H ?_; clear H; intro w H
  refine q_alloc H ?_; clear H; intro g7 w H
  refine go_W H ?_; clear H; intro w H
  replace H := H.drew
  refine r_start (Hold [(gx, .cells (BC gx gt gs gm gl).toArray 74 (0, 0))]) 7 rfl holdS ?_
  refine r_takeX 0 ?_; refine r_takeX 1 ?_; refine r_takeX 2 ?_; refine r_takeX 3 ?_; refine r_takeX 4 ?_
  refine r_op 5 rfl ?_
  refine q_tri H (NX _) ?_; clear H; rintro v1 _ w ⟨v', i', hi1, hi2, hi3, hi4, rfl⟩ H
  obtain ⟨a1, c1, rfl⟩ := RB.val (H.rbB (v := v1) (by (repeat (first | exact Take.z | apply Take.s)); done))
  refine q_nil ?_; refine r_nextS ?_
  refine r_op 6 rfl ?_
  refine q_copyB (g := g7) H (H.rbB (v := .slice a1 cb.length c1) (by (repeat (first | exact Take.z | apply Take.s)); done)) ?_; clear H; intro w H
  rw [over32 cb htl] at H
  refine q_nil ?_; refine r_nextS ?_
  refine r_done ?_
  refine go_W H ?_; clear H; intro w H
  refine q_mapPut (ν := νm) (v := cb) (k := k) lawM H hM hk ?_; clear H; intro w H
  refine go_W H ?_; clear H; intro w H
  exact ret1 rfl (rv_agg H) ⟨_, _, rfl, ⟨i', v', hi1, hi3, by omega, rfl, rfl⟩, H.sub (by repeat (first | exact Sub.nil | apply Sub.cons | exact Take.z | apply Take.s))⟩
end Go.Proofs.Ytbdkicmdidcdcaa
namespace Go.Proofs.Ytbdkicmdidcdcaa
open Go.RowKit

/-- What a book gives for a key: the bytes, the place of the tape, the book. -/
def bookOf (s : Int) (at' : Nat) (M : List (MK × List UInt8)) (k : MK) : List UInt8 × Nat × List (MK × List UInt8) :=
  match mget M k with
  | some h => (h, at', M)
  | none => (tp s at' 32, at' + 32, mput M k (tp s at' 32))
theorem bookOf_length (s : Int) (at' : Nat) (M : List (MK × List UInt8)) (k : MK) (h : ∀ p ∈ M, p.2.length = 32) : (bookOf s at' M k).1.length = 32 := by
  unfold bookOf
  cases hg : mget M k with
  | none => exact tp_length _ _ _
  | some b => exact h _ (mget_mem hg)
set_option maxRecDepth 100000 in
theorem Mark_nil (key : List UInt8) (bv : Value) (w : World) (_hk : key.length = 32) :
    Calls Try.prog 59 #[.pointer none, .agg (bs key).toArray, bv] w fun e w' => e = .returned (.agg (bs (List.replicate 32 0)).toArray) ∧ No w w' := by
  have H := St.nil (fun _ => False) w
  refine q_enter Try.func59 rfl rfl ?_
  refine go_W H ?_; clear H; intro w H
  refine q_box H ?_; clear H; intro gk w H
  refine go_W H ?_; clear H; intro w H
  refine q_alloc H ?_; clear H; intro g6 w H
  refine go_W H ?_; clear H; intro w H
  refine q_buildB0 ?_
  refine go_W H ?_; clear H; intro w H
  exact ret1 rfl (rv_agg H) ⟨rfl, H.fr⟩
set_option maxRecDepth 100000 in
set_option maxHeartbeats 1000000 in
theorem Mark_real (gx : Nat) (key : List UInt8) (bv : Value) (b : List UInt8) (p : Value) (m1 m2 m3 : Value) (W : World) (hk : key.length = 32) (hbl : b.length ≤ 100000) :
    TriR Try.prog 59 [.pointer (some ⟨gx, 0, none⟩), .agg (bs key).toArray, bv] [(bv, b)] [cells gx [.int .i64 0, p, m1, m2, m3] 74] W fun u L =>
      u = .agg (bs (hmac key b)).toArray ∧ L = [cells gx [.int .i64 0, p, m1, m2, m3] 74] := by
  refine TriR.of fun F ⟨⟨hb, hnb⟩, _⟩ H => ?_
  have hkl : (bs key).length = 32 := by rw [bs_length, hk]
  obtain ⟨ba, bc, rfl⟩ := hb.val
  have HM := fun v pv w (h : RB w v key) (hp : RBs w pv [b]) => HMAC_any v key pv [b] w h hp (by omega) (by simp; omega) (by simp)
  have eb : [b].flatten = b := by simp
  rw [eb] at HM
  have hml := hmac_length key b
  generalize hmac key b = hm at *
  have hml' : (bs hm).length = 32 := by rw [bs_length, hml]
  refine q_enter Try.func59 rfl rfl ?_
  refine go_W H ?_; clear H; intro w H
  refine q_box H ?_; clear H; intro gk w H
  refine go_W H ?_; clear H; intro w H
  refine q_alloc H ?_; clear H; intro g6 w H
  refine go_W H ?_; clear H; intro w H
  refine q_side1 H ?_; clear H; intro g2 w H
  refine q_call (HM (.slice (some ⟨gk, 0, none⟩) 32 32) (.slice (some ⟨g2, 0, none⟩) 1 1) _ (H.rbC (g := gk) (by (repeat (first | exact Take.z | apply Take.s)); done) hk (by omega)) (RBs.blk1 (H.blk (g := g2) (by (repeat (first | exact Take.z | apply Take.s)); done)) (H.rb hb hnb))) ?_; rintro _ w1 ⟨rfl, hNo⟩; replace H := H.no hNo; clear hNo; refine ⟨_, rfl, ?_⟩
  refine go_W H ?_; clear H; intro w H
  exact ret1 rfl (rv_agg H) ⟨_, _, rfl, ⟨rfl, rfl⟩, H.sub (by repeat (first | exact Sub.nil | apply Sub.cons | exact Take.z | apply Take.s))⟩
set_option maxRecDepth 100000 in
set_option maxHeartbeats 2000000 in
theorem Mark_ideal (c gx gt gs gm gl : Nat) (s : Int) (i at' : Nat) (v : Value) (Ms : List (SK × List UInt8)) (Mm Ml : List (MK × List UInt8)) (key : List UInt8) (bv : Value) (b : List UInt8) (W : World) (hB : BOk c s i at' Ms Mm Ml) (hc : c < 10000)
    (hk : key.length = 32) (hbl : b.length ≤ 100000) :
    TriR Try.prog 59 [.pointer (some ⟨gx, 0, none⟩), .agg (bs key).toArray, bv] [(bv, b)] (BXl gx gt gs gm gl s i at' v Ms Mm Ml) W fun u L =>
      ∃ i' v', BOk (c + 1) s i' (bookOf s at' Mm (key, b)).2.1 Ms (bookOf s at' Mm (key, b)).2.2 Ml ∧ u = .agg (bs (bookOf s at' Mm (key, b)).1).toArray ∧
        L = BXl gx gt gs gm gl s i' (bookOf s at' Mm (key, b)).2.1 v' Ms (bookOf s at' Mm (key, b)).2.2 Ml := by
  refine TriR.of fun F ⟨⟨hb, hnb⟩, _⟩ H => ?_
  have hkl : (bs key).length = 32 := by rw [bs_length, hk]
  have hkl' : (bs key).length = (bs (List.replicate 32 0)).length := by rw [hkl]; simp [bs_length]
  obtain ⟨ba, bc, rfl⟩ := hb.val
  have hKm := κm_ok key b hk (by omega)
  have h1 := hB.hi
  have h2 := hB.at_
  have h3 := hB.lm
  refine q_enter Try.func59 rfl rfl ?_
  refine go_W H ?_; clear H; intro w H
  refine q_box H ?_; clear H; intro gk w H
  refine go_W H ?_; clear H; intro w H
  refine q_alloc H ?_; clear H; intro g6 w H
  refine go_W H ?_; clear H; intro w H
  replace H := H.drew
  refine r_start (Hold2 [(gx, .cells (BC gx gt gs gm gl).toArray 74 (0, 0)), (gk, .cells (bs key).toArray 26 (0, 0))] [(.slice ba b.length bc, b)]) 11 rfl holdS ?_
  refine r_takeX 0 ?_; refine r_takeX 1 ?_; refine r_takeX 2 ?_; refine r_takeX 3 ?_; refine r_takeX 4 ?_; refine r_takeX 5 ?_; refine r_takeX 6 ?_; refine r_takeX 7 ?_
  refine r_take 8 rfl rfl (fun w hS => x_build [bs key, [.string (str b)]] (bs key ++ [.string (str b)]) (by exact Or.inl ⟨rfl, rfl, hkl', Or.inl ⟨rfl, rfl, rfl, rfl⟩⟩) (by simp)) ?_
  refine r_op 9 rfl ?_
  unfold bookOf
  cases hg : mget Mm (key, b) with
  | some h =>
    have hl := hB.vm _ (mget_mem hg)
    dsimp only at hl
    have hhl : (bs h).length = 32 := by rw [bs_length, hl]
    refine q_tri H (noted_old gx gm (BC gx gt gs gm gl) Mm (key, b) h _ hB.mm hKm hk hg hl) ?_; clear H; rintro _ _ w ⟨rfl, rfl⟩ H
    refine q_nil ?_; refine r_nextS ?_
    refine r_op 10 rfl ?_
    refine q_storeW (g := g6) H ?_; clear H; intro w H
    refine q_nil ?_; refine r_nextS ?_
    refine r_done ?_
    refine go_W H ?_; clear H; intro w H
    refine ret1 rfl (rv_agg H) ⟨_, _, rfl, ⟨i, v, ⟨by omega, hB.s, hB.lo, hB.hi, by dsimp only; omega, by have := hB.ls; omega, by have := hB.lm; dsimp only; omega, by have := hB.ll; omega, hB.ms, hB.mm, hB.ml, hB.vs, hB.vm, hB.vl⟩, rfl, rfl⟩, H.sub (by repeat (first | exact Sub.nil | apply Sub.cons | exact Take.z | apply Take.s))⟩
  | none =>
    refine q_tri H (noted_new gx gt gs gm gl gm s i at' v Mm (key, b) _ hB.s (by omega) hB.lo hB.hi hB.mm hKm hk hg) ?_; clear H; rintro _ _ w ⟨i', v', hi1, hi2, hi3, rfl, rfl⟩ H
    have htl := tp_length s at' 32
    generalize tp s at' 32 = cb at *
    have hhl : (bs cb).length = 32 := by rw [bs_length, htl]
    refine q_nil ?_; refine r_nextS ?_
    refine r_op 10 rfl ?_
    refine q_storeW (g := g6) H ?_; clear H; intro w H
    refine q_nil ?_; refine r_nextS ?_
    refine r_done ?_
    refine go_W H ?_; clear H; intro w H
    have h4 := mput_length_le (key, b) cb Mm
    refine ret1 rfl (rv_agg H) ⟨_, _, rfl, ⟨i', v', ⟨by omega, hB.s, by dsimp only; omega, by dsimp only; omega, by dsimp only; omega, by have := hB.ls; omega, by dsimp only; omega, by have := hB.ll; omega, hB.ms, hB.mm.put hKm cb (by omega), hB.ml, hB.vs, fun p hp => (mput_mem Mm _ _ p hp).elim (fun e => by rw [e]; exact htl) (hB.vm p), hB.vl⟩, rfl, rfl⟩, H.sub (by repeat (first | exact Sub.nil | apply Sub.cons | exact Take.z | apply Take.s))⟩
end Go.Proofs.Ytbdkicmdidcdcaa
namespace Go.Proofs.Ytbdkicmdidcdcaa
open Go.RowKit

theorem RBs.blk2 {w : World} {g : Nat} {e : TypeId} {fz : Nat × Nat} {v u : Value} {l m : List UInt8} (hg : w.heap[g]? = some (.cells [v, u].toArray e fz)) (h : RB w v l) (k : RB w u m) : RBs w (.slice (some ⟨g, 0, none⟩) 2 2) [l, m] :=
  RBs.blk [v, u] [l, m] 2 hg rfl rfl (by omega) fun j x y a b => by
    match j with
    | 0 => simp at a b; subst a b; exact h
    | 1 => simp at a b; subst a b; exact k
    | j + 2 => simp at a
set_option maxRecDepth 100000 in
theorem Label_nil (key : List UInt8) (sv : ByteArray) (w : World) (_hk : key.length = 32) :
    Calls Try.prog 63 #[.pointer none, .agg (bs key).toArray, .string sv] w fun e w' => e = .returned (.agg (bs (List.replicate 32 0)).toArray) ∧ No w w' := by
  have H := St.nil (fun _ => False) w
  refine q_enter Try.func63 rfl rfl ?_
  refine go_W H ?_; clear H; intro w H
  refine q_box H ?_; clear H; intro gk w H
  refine go_W H ?_; clear H; intro w H
  refine q_alloc H ?_; clear H; intro g6 w H
  refine go_W H ?_; clear H; intro w H
  refine q_buildB0 ?_
  refine go_W H ?_; clear H; intro w H
  exact ret1 rfl (rv_agg H) ⟨rfl, H.fr⟩
set_option maxRecDepth 100000 in
set_option maxHeartbeats 1000000 in
theorem Label_real (gx : Nat) (key : List UInt8) (b : List UInt8) (p : Value) (m1 m2 m3 : Value) (W : World) (hk : key.length = 32) (hbl : b.length ≤ 100000) :
    Tri Try.prog 63 [.pointer (some ⟨gx, 0, none⟩), .agg (bs key).toArray, .string (str b)] [cells gx [.int .i64 0, p, m1, m2, m3] 74] W fun u L =>
      u = .agg (bs (hmac key (1 :: b))).toArray ∧ L = [cells gx [.int .i64 0, p, m1, m2, m3] 74] := by
  refine Tri.of fun F H => ?_
  have hkl : (bs key).length = 32 := by rw [bs_length, hk]
  have HM := fun v pv w (h : RB w v key) (hp : RBs w pv [[1], b]) => HMAC_any v key pv [[1], b] w h hp (by omega) (by simp; omega) (by simp)
  have eb : [[1], b].flatten = 1 :: b := by simp
  rw [eb] at HM
  have hml := hmac_length key (1 :: b)
  generalize hmac key (1 :: b) = hm at *
  have hml' : (bs hm).length = 32 := by rw [bs_length, hml]
  refine q_enter Try.func63 rfl rfl ?_
  refine go_W H ?_; clear H; intro w H
  refine q_box H ?_; clear H; intro gk w H
  refine go_W H ?_; clear H; intro w H
  refine q_alloc H ?_; clear H; intro g6 w H
  refine go_W H ?_; clear H; intro w H
  refine q_constB [1] H ?_; clear H; intro g1 w H
  refine go_W H ?_; clear H; intro w H
  refine q_bytes (sv := str b) H ?_ (hsz := by rw [str_size]; omega); clear H; intro v1 w H _
  rw [str_data] at H
  obtain ⟨ba, bc, rfl⟩ := RB.val (H.rbR (v := v1) (by (repeat (first | exact Take.z | apply Take.s)); done))
  refine q_side2 H ?_; clear H; intro g2 w H
  refine q_call (HM (.slice (some ⟨gk, 0, none⟩) 32 32) (.slice (some ⟨g2, 0, none⟩) 2 2) _ (H.rbC (g := gk) (by (repeat (first | exact Take.z | apply Take.s)); done) hk (by omega)) (RBs.blk2 (H.blk (g := g2) (by (repeat (first | exact Take.z | apply Take.s)); done)) (H.rbC (g := g1) (m := 1) (by (repeat (first | exact Take.z | apply Take.s)); done) rfl (by omega)) (H.rbR (by (repeat (first | exact Take.z | apply Take.s)); done)))) ?_; rintro _ w1 ⟨rfl, hNo⟩; replace H := H.no hNo; clear hNo; refine ⟨_, rfl, ?_⟩
  refine go_W H ?_; clear H; intro w H
  exact ret1 rfl (rv_agg H) ⟨_, _, rfl, ⟨rfl, rfl⟩, H.sub (by repeat (first | exact Sub.nil | apply Sub.cons | exact Take.z | apply Take.s))⟩
set_option maxRecDepth 100000 in
set_option maxHeartbeats 2000000 in
theorem Label_ideal (c gx gt gs gm gl : Nat) (s : Int) (i at' : Nat) (v : Value) (Ms : List (SK × List UInt8)) (Mm Ml : List (MK × List UInt8)) (key : List UInt8) (b : List UInt8) (W : World) (hB : BOk c s i at' Ms Mm Ml) (hc : c < 10000)
    (hk : key.length = 32) (hbl : b.length ≤ 100000) :
    Tri Try.prog 63 [.pointer (some ⟨gx, 0, none⟩), .agg (bs key).toArray, .string (str b)] (BXl gx gt gs gm gl s i at' v Ms Mm Ml) W fun u L =>
      ∃ i' v', BOk (c + 1) s i' (bookOf s at' Ml (key, b)).2.1 Ms Mm (bookOf s at' Ml (key, b)).2.2 ∧ u = .agg (bs (bookOf s at' Ml (key, b)).1).toArray ∧
        L = BXl gx gt gs gm gl s i' (bookOf s at' Ml (key, b)).2.1 v' Ms Mm (bookOf s at' Ml (key, b)).2.2 := by
  refine Tri.of fun F H => ?_
  have hkl : (bs key).length = 32 := by rw [bs_length, hk]
  have hkl' : (bs key).length = (bs (List.replicate 32 0)).length := by rw [hkl]; simp [bs_length]
  have hKm := κm_ok key b hk (by omega)
  have h1 := hB.hi
  have h2 := hB.at_
  have h3 := hB.ll
  refine q_enter Try.func63 rfl rfl ?_
  refine go_W H ?_; clear H; intro w H
  refine q_box H ?_; clear H; intro gk w H
  refine go_W H ?_; clear H; intro w H
  refine q_alloc H ?_; clear H; intro g6 w H
  refine go_W H ?_; clear H; intro w H
  replace H := H.drew
  refine r_start (Hold [(gx, .cells (BC gx gt gs gm gl).toArray 74 (0, 0)), (gk, .cells (bs key).toArray 26 (0, 0))]) 10 rfl holdS ?_
  refine r_takeX 0 ?_; refine r_takeX 1 ?_; refine r_takeX 2 ?_; refine r_takeX 3 ?_; refine r_takeX 4 ?_; refine r_takeX 5 ?_; refine r_takeX 6 ?_
  refine r_take 7 rfl rfl (fun w hS => x_build [bs key, [.string (str b)]] (bs key ++ [.string (str b)]) (by exact Or.inl ⟨rfl, rfl, hkl', Or.inl ⟨rfl, rfl, rfl, rfl⟩⟩) (by simp)) ?_
  refine r_op 8 rfl ?_
  unfold bookOf
  cases hg : mget Ml (key, b) with
  | some h =>
    have hl := hB.vl _ (mget_mem hg)
    dsimp only at hl
    have hhl : (bs h).length = 32 := by rw [bs_length, hl]
    refine q_tri H (noted_old gx gl (BC gx gt gs gm gl) Ml (key, b) h _ hB.ml hKm hk hg hl) ?_; clear H; rintro _ _ w ⟨rfl, rfl⟩ H
    refine q_nil ?_; refine r_nextS ?_
    refine r_op 9 rfl ?_
    refine q_storeW (g := g6) H ?_; clear H; intro w H
    refine q_nil ?_; refine r_nextS ?_
    refine r_done ?_
    refine go_W H ?_; clear H; intro w H
    refine ret1 rfl (rv_agg H) ⟨_, _, rfl, ⟨i, v, ⟨by omega, hB.s, hB.lo, hB.hi, by dsimp only; omega, by have := hB.ls; omega, by have := hB.lm; omega, by dsimp only; omega, hB.ms, hB.mm, hB.ml, hB.vs, hB.vm, hB.vl⟩, rfl, rfl⟩, H.sub (by repeat (first | exact Sub.nil | apply Sub.cons | exact Take.z | apply Take.s))⟩
  | none =>
    refine q_tri H (noted_new gx gt gs gm gl gl s i at' v Ml (key, b) _ hB.s (by omega) hB.lo hB.hi hB.ml hKm hk hg) ?_; clear H; rintro _ _ w ⟨i', v', hi1, hi2, hi3, rfl, rfl⟩ H
    have htl := tp_length s at' 32
    generalize tp s at' 32 = cb at *
    have hhl : (bs cb).length = 32 := by rw [bs_length, htl]
    refine q_nil ?_; refine r_nextS ?_
    refine r_op 9 rfl ?_
    refine q_storeW (g := g6) H ?_; clear H; intro w H
    refine q_nil ?_; refine r_nextS ?_
    refine r_done ?_
    refine go_W H ?_; clear H; intro w H
    have h4 := mput_length_le (key, b) cb Ml
    refine ret1 rfl (rv_agg H) ⟨_, _, rfl, ⟨i', v', ⟨by omega, hB.s, by dsimp only; omega, by dsimp only; omega, by dsimp only; omega, by have := hB.ls; omega, by have := hB.lm; omega, by dsimp only; omega, hB.ms, hB.mm, hB.ml.put hKm cb (by omega), hB.vs, hB.vm, fun p hp => (mput_mem Ml _ _ p hp).elim (fun e => by rw [e]; exact htl) (hB.vl p)⟩, rfl, rfl⟩, H.sub (by repeat (first | exact Sub.nil | apply Sub.cons | exact Take.z | apply Take.s))⟩
set_option maxRecDepth 100000 in
theorem Is_nil (key h : List UInt8) (bv : Value) (w : World) (_hk : key.length = 32) (_hh : h.length = 32) :
    Calls Try.prog 62 #[.pointer none, .agg (bs key).toArray, bv, .agg (bs h).toArray] w fun e w' => e = .returned (.bool false) ∧ No w w' := by
  have H := St.nil (fun _ => False) w
  refine q_enter Try.func62 rfl rfl ?_
  refine go_W H ?_; clear H; intro w H
  refine q_box H ?_; clear H; intro gk w H
  refine go_W H ?_; clear H; intro w H
  refine q_box H ?_; clear H; intro gh w H
  refine go_W H ?_; clear H; intro w H
  exact ret1 rfl rv_tmp ⟨rfl, H.fr⟩
set_option maxRecDepth 100000 in
set_option maxHeartbeats 1000000 in
theorem Is_real (gx : Nat) (key h : List UInt8) (bv : Value) (b : List UInt8) (p : Value) (m1 m2 m3 : Value) (W : World) (hk : key.length = 32) (hh : h.length = 32) (hbl : b.length ≤ 100000) :
    TriR Try.prog 62 [.pointer (some ⟨gx, 0, none⟩), .agg (bs key).toArray, bv, .agg (bs h).toArray] [(bv, b)] [cells gx [.int .i64 0, p, m1, m2, m3] 74] W fun u L =>
      u = .bool (decide (hmac key b = h)) ∧ L = [cells gx [.int .i64 0, p, m1, m2, m3] 74] := by
  refine TriR.of fun F ⟨⟨hb, hnb⟩, _⟩ H => ?_
  have hkl : (bs key).length = 32 := by rw [bs_length, hk]
  have hhl : (bs h).length = 32 := by rw [bs_length, hh]
  obtain ⟨ba, bc, rfl⟩ := hb.val
  have HM := fun v pv w (h : RB w v key) (hp : RBs w pv [b]) => HMAC_any v key pv [b] w h hp (by omega) (by simp; omega) (by simp)
  have eb : [b].flatten = b := by simp
  rw [eb] at HM
  have hml := hmac_length key b
  generalize hmac key b = hm at *
  have hml' : (bs hm).length = 32 := by rw [bs_length, hml]
  refine q_enter Try.func62 rfl rfl ?_
  refine go_W H ?_; clear H; intro w H
  refine q_box H ?_; clear H; intro gk w H
  refine go_W H ?_; clear H; intro w H
  refine q_box H ?_; clear H; intro gh w H
  refine go_W H ?_; clear H; intro w H
  refine q_side1 H ?_; clear H; intro g2 w H
  refine q_call (HM (.slice (some ⟨gk, 0, none⟩) 32 32) (.slice (some ⟨g2, 0, none⟩) 1 1) _ (H.rbC (g := gk) (by (repeat (first | exact Take.z | apply Take.s)); done) hk (by omega)) (RBs.blk1 (H.blk (g := g2) (by (repeat (first | exact Take.z | apply Take.s)); done)) (H.rb hb hnb))) ?_; rintro _ w1 ⟨rfl, hNo⟩; replace H := H.no hNo; clear hNo; refine ⟨_, rfl, ?_⟩
  refine q_alloc H ?_; clear H; intro g9 w H
  refine go_W H ?_; clear H; intro w H
  replace H := H.drew
  refine r_start (Hold []) 4 rfl trivial ?_
  refine r_takeX 0 ?_; refine r_takeX 1 ?_
  refine r_op 2 rfl ?_
  refine q_call (Same_any (.slice (some ⟨g9, 0, none⟩) 32 32) (.slice (some ⟨gh, 0, none⟩) 32 32) hm h _ (H.rbC (g := g9) (by (repeat (first | exact Take.z | apply Take.s)); done) hml (by omega)) (H.rbC (g := gh) (by (repeat (first | exact Take.z | apply Take.s)); done) hh (by omega))) ?_; rintro _ w1 ⟨rfl, hNo⟩; replace H := H.no hNo; clear hNo; refine ⟨_, rfl, ?_⟩
  refine q_nil ?_; refine r_nextS ?_
  refine r_takeX 3 ?_
  refine r_done ?_
  refine go_W H ?_; clear H; intro w H
  exact ret1 rfl rv_tmp ⟨_, _, rfl, ⟨rfl, rfl⟩, H.sub (by repeat (first | exact Sub.nil | apply Sub.cons | exact Take.z | apply Take.s))⟩
set_option maxRecDepth 100000 in
set_option maxHeartbeats 2000000 in
theorem Is_ideal (c gx gt gs gm gl : Nat) (s : Int) (i at' : Nat) (v : Value) (Ms : List (SK × List UInt8)) (Mm Ml : List (MK × List UInt8)) (key h : List UInt8) (bv : Value) (b : List UInt8) (W : World) (hB : BOk c s i at' Ms Mm Ml)
    (hk : key.length = 32) (hh : h.length = 32) (hbl : b.length ≤ 100000) :
    TriR Try.prog 62 [.pointer (some ⟨gx, 0, none⟩), .agg (bs key).toArray, bv, .agg (bs h).toArray] [(bv, b)] (BXl gx gt gs gm gl s i at' v Ms Mm Ml) W fun u L =>
      u = .bool (decide (mget Mm (key, b) = some h)) ∧ L = BXl gx gt gs gm gl s i at' v Ms Mm Ml := by
  refine TriR.of fun F ⟨⟨hb, hnb⟩, _⟩ H => ?_
  have hkl : (bs key).length = 32 := by rw [bs_length, hk]
  have hhl : (bs h).length = 32 := by rw [bs_length, hh]
  have hkl' : (bs key).length = (bs (List.replicate 32 0)).length := by rw [hkl]; simp [bs_length]
  obtain ⟨ba, bc, rfl⟩ := hb.val
  have hKm := κm_ok key b hk (by omega)
  refine q_enter Try.func62 rfl rfl ?_
  refine go_W H ?_; clear H; intro w H
  refine q_box H ?_; clear H; intro gk w H
  refine go_W H ?_; clear H; intro w H
  refine q_box H ?_; clear H; intro gh w H
  refine go_W H ?_; clear H; intro w H
  cases hg : mget Mm (key, b) with
  | none =>
    refine q_merge (X := Nat) (fun g => [(10, .pointer (some ⟨g, 0, none⟩)), (7, .pointer (some ⟨gh, 0, none⟩)), (11, .bool false)])
      (fun g w => St F W (cells g (bs (List.replicate 32 0)) 26 :: cells gh (bs h) 26 :: BXl gx gt gs gm gl s i at' v Ms Mm Ml) w) ?_ ?_
    · replace H := H.drew
      refine r_start (Hold2 [(gx, .cells (BC gx gt gs gm gl).toArray 74 (0, 0)), (gk, .cells (bs key).toArray 26 (0, 0))] [(.slice ba b.length bc, b)]) 15 rfl holdS ?_
      refine r_takeX 0 ?_; refine r_takeX 1 ?_; refine r_takeX 2 ?_; refine r_takeX 3 ?_; refine r_takeX 4 ?_; refine r_takeX 5 ?_; refine r_takeX 6 ?_
      refine r_take 7 rfl rfl (fun w hS => x_build [bs key, [.string (str b)]] (bs key ++ [.string (str b)]) (by exact Or.inl ⟨rfl, rfl, hkl', Or.inl ⟨rfl, rfl, rfl, rfl⟩⟩) (by simp)) ?_
      refine r_two 8 12 rfl rfl ?_ ?_
      · refine q_lookNone (ν := νm) (k := (key, b)) (.agg (bs (List.replicate 32 0)).toArray) lawM H hB.mm hKm hg ?_
        refine q_nil ?_; refine r_nextS ?_
        refine r_takeX 9 ?_; refine r_takeX 10 ?_; refine r_takeX 11 ?_
        refine r_op 12 rfl ?_
        refine q_alloc H ?_; clear H; intro g w H
        refine q_nil ?_; refine r_nextS ?_
        refine r_op 13 rfl ?_
        refine q_storeW (g := g) H ?_; clear H; intro w H
        refine q_nil ?_; refine r_nextS ?_
        refine r_takeX 14 ?_
        refine r_done ?_
        exact ⟨g, ⟨rfl, rfl, rfl, trivial⟩, H.sub (by repeat (first | exact Sub.nil | apply Sub.cons | exact Take.z | apply Take.s))⟩
      · refine q_alloc H ?_; clear H; intro g w H
        refine q_nil ?_; refine r_nextS ?_
        refine r_op 8 rfl ?_
        refine q_lookNone (ν := νm) (k := (key, b)) (.agg (bs (List.replicate 32 0)).toArray) lawM H hB.mm hKm hg ?_
        refine q_nil ?_; refine r_nextS ?_
        refine r_takeX 9 ?_; refine r_takeX 10 ?_; refine r_takeX 11 ?_
        refine r_op 13 rfl ?_
        refine q_storeW (g := g) H ?_; clear H; intro w H
        refine q_nil ?_; refine r_nextS ?_
        refine r_takeX 14 ?_
        refine r_done ?_
        exact ⟨g, ⟨rfl, rfl, rfl, trivial⟩, H.sub (by repeat (first | exact Sub.nil | apply Sub.cons | exact Take.z | apply Take.s))⟩
    clear H
    intro g ρ w H
    refine go_W H ?_; clear H; intro w H
    exact ret1 rfl rv_tmp ⟨_, _, rfl, ⟨by simp, rfl⟩, H.sub (by repeat (first | exact Sub.nil | apply Sub.cons | exact Take.z | apply Take.s))⟩
  | some hm =>
    have hl := hB.vm _ (mget_mem hg)
    dsimp only at hl
    have hml : (bs hm).length = 32 := by rw [bs_length, hl]
    refine q_merge (X := Nat) (fun g => [(10, .pointer (some ⟨g, 0, none⟩)), (7, .pointer (some ⟨gh, 0, none⟩)), (11, .bool true)])
      (fun g w => St F W (cells g (bs hm) 26 :: cells gh (bs h) 26 :: BXl gx gt gs gm gl s i at' v Ms Mm Ml) w) ?_ ?_
    · replace H := H.drew
      refine r_start (Hold2 [(gx, .cells (BC gx gt gs gm gl).toArray 74 (0, 0)), (gk, .cells (bs key).toArray 26 (0, 0))] [(.slice ba b.length bc, b)]) 15 rfl holdS ?_
      refine r_takeX 0 ?_; refine r_takeX 1 ?_; refine r_takeX 2 ?_; refine r_takeX 3 ?_; refine r_takeX 4 ?_; refine r_takeX 5 ?_; refine r_takeX 6 ?_
      refine r_take 7 rfl rfl (fun w hS => x_build [bs key, [.string (str b)]] (bs key ++ [.string (str b)]) (by exact Or.inl ⟨rfl, rfl, hkl', Or.inl ⟨rfl, rfl, rfl, rfl⟩⟩) (by simp)) ?_
      refine r_two 8 12 rfl rfl ?_ ?_
      · refine q_lookSome (ν := νm) (k := (key, b)) lawM H hB.mm hKm hg ?_
        refine q_nil ?_; refine r_nextS ?_
        refine r_takeX 9 ?_; refine r_takeX 10 ?_; refine r_takeX 11 ?_
        refine r_op 12 rfl ?_
        refine q_alloc H ?_; clear H; intro g w H
        refine q_nil ?_; refine r_nextS ?_
        refine r_op 13 rfl ?_
        refine q_storeW (g := g) H ?_; clear H; intro w H
        refine q_nil ?_; refine r_nextS ?_
        refine r_takeX 14 ?_
        refine r_done ?_
        exact ⟨g, ⟨rfl, rfl, rfl, trivial⟩, H.sub (by repeat (first | exact Sub.nil | apply Sub.cons | exact Take.z | apply Take.s))⟩
      · refine q_alloc H ?_; clear H; intro g w H
        refine q_nil ?_; refine r_nextS ?_
        refine r_op 8 rfl ?_
        refine q_lookSome (ν := νm) (k := (key, b)) lawM H hB.mm hKm hg ?_
        refine q_nil ?_; refine r_nextS ?_
        refine r_takeX 9 ?_; refine r_takeX 10 ?_; refine r_takeX 11 ?_
        refine r_op 13 rfl ?_
        refine q_storeW (g := g) H ?_; clear H; intro w H
        refine q_nil ?_; refine r_nextS ?_
        refine r_takeX 14 ?_
        refine r_done ?_
        exact ⟨g, ⟨rfl, rfl, rfl, trivial⟩, H.sub (by repeat (first | exact Sub.nil | apply Sub.cons | exact Take.z | apply Take.s))⟩
    clear H
    intro g ρ w H
    refine go_W H ?_; clear H; intro w H
    by_cases e : hm = h
    · subst e
      refine q_weq_t (Kv_bytes hm hl) (Kv_bytes hm hl) rfl ?_
      refine go_W H ?_; clear H; intro w H
      exact ret1 rfl rv_tmp ⟨_, _, rfl, ⟨by simp, rfl⟩, H.sub (by repeat (first | exact Sub.nil | apply Sub.cons | exact Take.z | apply Take.s))⟩
    · refine q_weq_f (Kv_bytes hm hl) (Kv_bytes h hh) (fun x => e (bs_inj (agg_inj x))) ?_
      refine go_W H ?_; clear H; intro w H
      exact ret1 rfl rv_tmp ⟨_, _, rfl, ⟨by simp [e], rfl⟩, H.sub (by repeat (first | exact Sub.nil | apply Sub.cons | exact Take.z | apply Take.s))⟩
end Go.Proofs.Ytbdkicmdidcdcaa
