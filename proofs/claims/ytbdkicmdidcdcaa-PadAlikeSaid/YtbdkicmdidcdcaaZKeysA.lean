/-
  mac.Extract, keys.key, keys.Of (printed by wip/dev/gen_keys.py).
-/
import Derived.Test.YtbdkicmdidcdcaaZL
import Derived.Test.YtbdkicmdidcdcaaZD
import Derived.Test.YtbdkicmdidcdcaaZQO
import Derived.Test.YtbdkicmdidcdcaaZJ
import Derived.Test.YtbdkicmdidcdcaaZQ
namespace Go.Proofs.Ytbdkicmdidcdcaa
open Go.RowKit

section
variable {P : Program} {n : Nat} {Q : Post} {ρ : Env} {w : World} {ops : Array Oper} {S : World → Prop} {fuel : Nat} {listed : Array Bool}
/-- A state of a region that many ways come to: proved once. -/
theorem r_key {X : Type} (slots : X → List (Nat × Value)) (I : X → World → Prop) (k : Nat) (L1 : Array Bool) (key : ∀ x ρ w, I x w → RW P n ops Q S k L1 (upds (slots x) ρ) w)
    (h : (∀ x ρ w, Has ρ (slots x) → I x w → RW P n ops Q S k L1 ρ w) → RW P n ops Q S fuel listed ρ w) : RW P n ops Q S fuel listed ρ w :=
  h fun x ρ w hs hi => by have := key x ρ w hi; rwa [hs.eq] at this
end
structure K where
  (seal_ mark label : B32)
abbrev K.ss (k : K) : List (List Value) := [bs k.seal_.l, bs k.mark.l, bs k.label.l]
def saltW : List UInt8 := [105, 110, 100, 101, 110, 116, 117, 114, 101]
def sealW : List UInt8 := [115, 101, 97, 108]
def markW : List UInt8 := [109, 97, 114, 107]
def labelW : List UInt8 := [108, 97, 98, 101, 108]
def exB (root info : List UInt8) : B32 := ⟨expand root info 32, expand_length _ _ _⟩
/-- The keys of a secret and an epoch. -/
def keysOf (secret : List UInt8) (e : Int) : K :=
  ⟨exB (hmac saltW secret) (sealW ++ putN e), exB (hmac saltW secret) markW, exB (hmac saltW secret) labelW⟩
set_option maxRecDepth 100000 in
theorem Extract_any (v : Value) (k : List UInt8) (sv : Value) (m : List UInt8) (w : World) (hv : RB w v k) (hs : RB w sv m) (hk : k.length ≤ 1000000) (hm : m.length ≤ 1000000) :
    Calls Try.prog 37 #[v, sv] w fun e w' => e = .returned (.agg (bs (hmac k m)).toArray) ∧ No w w' := by
  have H := St.nil (fun _ => False) w
  obtain ⟨sa, sc, rfl⟩ := hs.val
  have HM := fun pv w (h : RB w v k) (hp : RBs w pv [m]) => HMAC_any v k pv [m] w h hp hk (by simp; omega) (by simp)
  have eb : [m].flatten = m := by simp
  rw [eb] at HM
  obtain ⟨T, hT⟩ := B32.of (hmac_length k m)
  rw [hT] at HM ⊢
  refine q_enter Try.func37 rfl rfl ?_
  refine go_R H ?_; clear H; intro w H
  refine q_alloc H ?_; clear H; intro g4 w H
  refine go_R H ?_; clear H; intro w H
  refine q_side1 H ?_; clear H; intro g2 w H
  refine q_call (HM (.slice (some ⟨g2, 0, none⟩) 1 1) _ (hv.no H.fr) (RBs.blk1 (H.blk (g := g2) (by (repeat (first | exact Take.z | apply Take.s)); done)) (hs.no H.fr))) ?_; rintro _ w1 ⟨rfl, hNo⟩; replace H := H.no hNo; clear hNo; refine ⟨_, rfl, ?_⟩
  refine q_storeW (g := g4) (cs := bs T.l) H ?_ (hk := partLen _ _); clear H; intro w H
  refine go_R H ?_; clear H; intro w H
  exact ret1 rfl (rv_agg H (hl := partLen _ _)) ⟨rfl, H.fr⟩
theorem over32' (T : B32) : over (List.replicate 32 0) 0 32 T.l = T.l := by
  have h := T.len
  unfold over; rw [List.take_zero, List.nil_append, Nat.zero_add, List.drop_of_length_le (by simp; omega), List.append_nil, List.take_of_length_le (by omega)]
set_option maxRecDepth 100000 in
theorem key_any (v : Value) (root : List UInt8) (iv : Value) (info : List UInt8) (w : World) (hv : RB w v root) (hi : RB w iv info) (hk : root.length ≤ 1000000) (hm : info.length ≤ 1000000) :
    Calls Try.prog 38 #[v, iv] w fun e w' => e = .returned (.agg (bs (exB root info).l).toArray) ∧ No w w' := by
  have H := St.nil (fun _ => False) w
  have EX := fun w (hv : RB w v root) (hi : RB w iv info) => Expand_any v root iv info 32 w hv hi hk hm (by omega) (by omega)
  rw [show expand root info 32 = (exB root info).l from rfl] at EX
  obtain ⟨T, hT⟩ : ∃ T, exB root info = T := ⟨_, rfl⟩
  rw [hT] at EX ⊢
  have hTl : (bs T.l).length = 32 := partLen _ _
  refine q_enter Try.func38 rfl rfl ?_
  refine go_R H ?_; clear H; intro w H
  refine q_alloc H ?_; clear H; intro g4 w H
  refine go_R H ?_; clear H; intro w H
  refine q_alloc H ?_; clear H; intro g5 w H
  refine go_R H ?_; clear H; intro w H
  replace H := H.drew
  refine r_start (Hold []) 5 rfl trivial ?_
  refine r_takeX 0 ?_; refine r_takeX 1 ?_; refine r_takeX 2 ?_
  refine r_op 3 rfl ?_
  refine q_call (EX _ (hv.no H.fr) (hi.no H.fr)) ?_; rintro _ w1 ⟨g, off, cap, rfl, hr, hNo, hgs⟩; replace H := H.no hNo; clear hNo; refine ⟨_, rfl, ?_⟩
  refine q_nil ?_; refine r_nextS ?_
  refine r_op 4 rfl ?_
  refine q_copyB (g := g5) H hr ?_ (hf := by simp); clear H; intro w H
  rw [over32' T] at H
  refine q_nil ?_; refine r_nextS ?_
  refine r_done ?_
  refine go_R H ?_; clear H; intro w H
  exact ret1 rfl (rv_agg H (hl := partLen _ _)) ⟨rfl, H.fr⟩

set_option maxRecDepth 100000 in
set_option maxHeartbeats 8000000 in
theorem Of_any (sv : Value) (secret : List UInt8) (e : Int) (W : World) (hs : RB W sv secret) (hsl : secret.length ≤ 100000) (he : -9223372036854775808 ≤ e ∧ e ≤ 9223372036854775807) :
    Calls Try.prog 16 #[sv, .int .i64 e] W fun r w' => r = .returned (.agg (cat (keysOf secret e).ss).toArray) ∧ No W w' := by
  have H := St.nil (fun _ => False) W
  have XT := fun v w (hv : RB w v saltW) (h : RB w sv secret) => Extract_any v saltW sv secret w hv h (by decide) (by omega)
  have pl := putN_length e
  obtain ⟨root, hroot⟩ := B32.of (hmac_length saltW secret)
  rw [hroot] at XT
  have K1C := fun v iv w (h1 : RB w v root.l) (h2 : RB w iv (sealW ++ putN e)) => key_any v root.l iv (sealW ++ putN e) w h1 h2 (by rw [root.len]; omega) (by simp [sealW]; omega)
  have K2C := fun v iv w (h1 : RB w v root.l) (h2 : RB w iv markW) => key_any v root.l iv markW w h1 h2 (by rw [root.len]; omega) (by decide)
  have K3C := fun v iv w (h1 : RB w v root.l) (h2 : RB w iv labelW) => key_any v root.l iv labelW w h1 h2 (by rw [root.len]; omega) (by decide)
  have hk : keysOf secret e = ⟨exB root.l (sealW ++ putN e), exB root.l markW, exB root.l labelW⟩ := by unfold keysOf; rw [hroot]
  rw [hk]
  obtain ⟨k1, h1⟩ : ∃ k, exB root.l (sealW ++ putN e) = k := ⟨_, rfl⟩
  obtain ⟨k2, h2⟩ : ∃ k, exB root.l markW = k := ⟨_, rfl⟩
  obtain ⟨k3, h3⟩ : ∃ k, exB root.l labelW = k := ⟨_, rfl⟩
  rw [h1] at K1C
  rw [h2] at K2C
  rw [h3] at K3C
  rw [h1, h2, h3]
  refine q_enter Try.func16 rfl rfl ?_
  refine go_R H ?_; clear H; intro w H
  refine q_alloc H ?_; clear H; intro g4 w H
  refine go_R H ?_; clear H; intro w H
  refine q_constB saltW H ?_; clear H; intro gs w H
  refine q_markC (g := gs) H ?_; clear H; intro w H
  replace H := St.asB H 9 rfl (by omega)
  refine go_R H ?_; clear H; intro w H
  refine q_call (XT (.slice (some ⟨gs, 0, none⟩) 9 9) _ (H.rbB (by (repeat (first | exact Take.z | apply Take.s)); done)) (hs.no H.fr)) ?_; rintro _ w1 ⟨rfl, hNo⟩; replace H := H.no hNo; clear hNo; refine ⟨_, rfl, ?_⟩
  refine q_alloc H ?_; clear H; intro g5 w H
  refine q_storeW (g := g5) (cs := bs root.l) H ?_ (hk := partLen _ _); clear H; intro w H
  refine go_R H ?_; clear H; intro w H
  replace H : St (fun _ => False) W [cells g5 (bs root.l) 26, cells g4 (cat [bs B32.zero.l, bs B32.zero.l, bs B32.zero.l]) 28] w := H.sub (by repeat (first | exact Sub.nil | apply Sub.cons | exact Take.z | apply Take.s))
  replace H := H.drew
  refine r_start (Hold []) 16 rfl trivial ?_
  refine r_takeX 0 ?_; refine r_takeX 3 ?_; refine r_takeX 6 ?_; refine r_takeX 10 ?_
  refine r_key (X := Nat × Value × Nat × Nat) (fun x => [(4, .pointer (some ⟨g4, 0, none⟩)), (10, .slice (some ⟨g5, 0, none⟩) 32 32), (13, .int .i64 e), (16, .slice (some ⟨g5, 0, none⟩) 32 32), (20, .slice (some ⟨g5, 0, none⟩) 32 32), (15, .agg (bs k1.l).toArray), (19, .agg (bs k2.l).toArray), (23, .agg (bs k3.l).toArray)]) (fun x w => St (fun _ => False) W [cells g5 (bs root.l) 26, cells g4 (cat [bs B32.zero.l, bs B32.zero.l, bs B32.zero.l]) 28] w) 2 #[true, true, true, true, true, true, true, true, true, true, true, true, true, true, false, false] ?_ (fun K433 => ?_)
  · rintro ⟨gA, vA, gB, gC⟩ ρ w H
    refine r_take 14 rfl rfl (fun w hS => x_buildR [bs k1.l, bs k2.l, bs k3.l]) ?_
    refine r_op 15 rfl ?_
    refine q_storeRW (g := g4) (ss' := [bs k1.l, bs k2.l, bs k3.l]) H ?_; clear H; intro w H
    refine q_nil ?_
    refine r_next Hold.nil ?_
    refine r_done ?_
    refine go_R H ?_; clear H; intro w H
    exact ret1 rfl (rv_cat H) ⟨rfl, H.fr⟩
  refine r_key (X := Nat × Value × Nat × Nat) (fun x => [(4, .pointer (some ⟨g4, 0, none⟩)), (10, .slice (some ⟨g5, 0, none⟩) 32 32), (13, .int .i64 e), (16, .slice (some ⟨g5, 0, none⟩) 32 32), (20, .slice (some ⟨g5, 0, none⟩) 32 32), (15, .agg (bs k1.l).toArray), (19, .agg (bs k2.l).toArray), (22, .slice (some ⟨x.2.2.2, 0, none⟩) 5 5)]) (fun x w => St (fun _ => False) W [cells g5 (bs root.l) 26, cells g4 (cat [bs B32.zero.l, bs B32.zero.l, bs B32.zero.l]) 28, bsl (.slice (some ⟨x.2.2.2, 0, none⟩) 5 5) labelW] w) 3 #[true, true, true, true, true, true, true, true, true, true, true, true, true, false, false, false] ?_ (fun K432 => ?_)
  · rintro ⟨gA, vA, gB, gC⟩ ρ w H
    refine r_op 13 rfl ?_
    refine q_call (K3C (.slice (some ⟨g5, 0, none⟩) 32 32) (.slice (some ⟨gC, 0, none⟩) 5 5) _ (H.rbC (g := g5) (by (repeat (first | exact Take.z | apply Take.s)); done) root.len (by omega)) (H.rbB (v := .slice (some ⟨gC, 0, none⟩) 5 5) (by (repeat (first | exact Take.z | apply Take.s)); done))) ?_; rintro _ w1 ⟨rfl, hNo⟩; replace H := H.no hNo; clear hNo; refine ⟨_, rfl, ?_⟩
    exact q_nil (r_next Hold.nil (K433 (gA, vA, gB, gC) _ _ ⟨rfl, rfl, rfl, rfl, rfl, rfl, rfl, rfl, trivial⟩ (H.sub (by repeat (first | exact Sub.nil | apply Sub.cons | exact Take.z | apply Take.s)))))
  refine r_key (X := Nat × Value × Nat × Nat) (fun x => [(4, .pointer (some ⟨g4, 0, none⟩)), (10, .slice (some ⟨g5, 0, none⟩) 32 32), (13, .int .i64 e), (16, .slice (some ⟨g5, 0, none⟩) 32 32), (20, .slice (some ⟨g5, 0, none⟩) 32 32), (15, .agg (bs k1.l).toArray), (18, .slice (some ⟨x.2.2.1, 0, none⟩) 4 4), (22, .slice (some ⟨x.2.2.2, 0, none⟩) 5 5)]) (fun x w => St (fun _ => False) W [cells g5 (bs root.l) 26, cells g4 (cat [bs B32.zero.l, bs B32.zero.l, bs B32.zero.l]) 28, bsl (.slice (some ⟨x.2.2.1, 0, none⟩) 4 4) markW, bsl (.slice (some ⟨x.2.2.2, 0, none⟩) 5 5) labelW] w) 4 #[true, true, true, true, true, true, true, true, true, false, true, true, true, false, false, false] ?_ (fun K422 => ?_)
  · rintro ⟨gA, vA, gB, gC⟩ ρ w H
    refine r_op 9 rfl ?_
    refine q_call (K2C (.slice (some ⟨g5, 0, none⟩) 32 32) (.slice (some ⟨gB, 0, none⟩) 4 4) _ (H.rbC (g := g5) (by (repeat (first | exact Take.z | apply Take.s)); done) root.len (by omega)) (H.rbB (v := .slice (some ⟨gB, 0, none⟩) 4 4) (by (repeat (first | exact Take.z | apply Take.s)); done))) ?_; rintro _ w1 ⟨rfl, hNo⟩; replace H := H.no hNo; clear hNo; refine ⟨_, rfl, ?_⟩
    exact q_nil (r_next Hold.nil (K432 (gA, vA, gB, gC) _ _ ⟨rfl, rfl, rfl, rfl, rfl, rfl, rfl, rfl, trivial⟩ (H.sub (by repeat (first | exact Sub.nil | apply Sub.cons | exact Take.z | apply Take.s)))))
  refine r_key (X := Nat × Value × Nat × Nat) (fun x => [(4, .pointer (some ⟨g4, 0, none⟩)), (10, .slice (some ⟨g5, 0, none⟩) 32 32), (13, .int .i64 e), (16, .slice (some ⟨g5, 0, none⟩) 32 32), (20, .slice (some ⟨g5, 0, none⟩) 32 32), (15, .agg (bs k1.l).toArray), (19, .agg (bs k2.l).toArray), (21, .slice (some ⟨x.2.2.2, 0, none⟩) 5 5)]) (fun x w => St (fun _ => False) W [cells g5 (bs root.l) 26, cells g4 (cat [bs B32.zero.l, bs B32.zero.l, bs B32.zero.l]) 28, cells x.2.2.2 (bs labelW) 5] w) 4 #[true, true, true, true, true, true, true, true, true, true, true, true, false, false, false, false] ?_ (fun K431 => ?_)
  · rintro ⟨gA, vA, gB, gC⟩ ρ w H
    refine r_op 12 rfl ?_
    refine q_markC (g := gC) H ?_; clear H; intro w H; replace H := St.asB H 5 rfl (by omega)
    exact q_nil (r_next Hold.nil (K432 (gA, vA, gB, gC) _ _ ⟨rfl, rfl, rfl, rfl, rfl, rfl, rfl, rfl, trivial⟩ (H.sub (by repeat (first | exact Sub.nil | apply Sub.cons | exact Take.z | apply Take.s)))))
  refine r_key (X := Nat × Value × Nat × Nat) (fun x => [(4, .pointer (some ⟨g4, 0, none⟩)), (10, .slice (some ⟨g5, 0, none⟩) 32 32), (13, .int .i64 e), (16, .slice (some ⟨g5, 0, none⟩) 32 32), (20, .slice (some ⟨g5, 0, none⟩) 32 32), (14, x.2.1), (18, .slice (some ⟨x.2.2.1, 0, none⟩) 4 4), (22, .slice (some ⟨x.2.2.2, 0, none⟩) 5 5)]) (fun x w => St (fun _ => False) W [cells g5 (bs root.l) 26, cells g4 (cat [bs B32.zero.l, bs B32.zero.l, bs B32.zero.l]) 28, bsl x.2.1 (sealW ++ putN e), bsl (.slice (some ⟨x.2.2.1, 0, none⟩) 4 4) markW, bsl (.slice (some ⟨x.2.2.2, 0, none⟩) 5 5) labelW] w) 5 #[true, true, true, true, true, false, true, true, true, false, true, true, true, false, false, false] ?_ (fun K322 => ?_)
  · rintro ⟨gA, vA, gB, gC⟩ ρ w H
    refine r_op 5 rfl ?_
    refine q_call (K1C (.slice (some ⟨g5, 0, none⟩) 32 32) vA _ (H.rbC (g := g5) (by (repeat (first | exact Take.z | apply Take.s)); done) root.len (by omega)) (H.rbB (v := vA) (by (repeat (first | exact Take.z | apply Take.s)); done))) ?_; rintro _ w1 ⟨rfl, hNo⟩; replace H := H.no hNo; clear hNo; refine ⟨_, rfl, ?_⟩
    exact q_nil (r_next Hold.nil (K422 (gA, vA, gB, gC) _ _ ⟨rfl, rfl, rfl, rfl, rfl, rfl, rfl, rfl, trivial⟩ (H.sub (by repeat (first | exact Sub.nil | apply Sub.cons | exact Take.z | apply Take.s)))))
  refine r_key (X := Nat × Value × Nat × Nat) (fun x => [(4, .pointer (some ⟨g4, 0, none⟩)), (10, .slice (some ⟨g5, 0, none⟩) 32 32), (13, .int .i64 e), (16, .slice (some ⟨g5, 0, none⟩) 32 32), (20, .slice (some ⟨g5, 0, none⟩) 32 32), (15, .agg (bs k1.l).toArray), (17, .slice (some ⟨x.2.2.1, 0, none⟩) 4 4), (22, .slice (some ⟨x.2.2.2, 0, none⟩) 5 5)]) (fun x w => St (fun _ => False) W [cells g5 (bs root.l) 26, cells g4 (cat [bs B32.zero.l, bs B32.zero.l, bs B32.zero.l]) 28, cells x.2.2.1 (bs markW) 5, bsl (.slice (some ⟨x.2.2.2, 0, none⟩) 5 5) labelW] w) 5 #[true, true, true, true, true, true, true, true, false, false, true, true, true, false, false, false] ?_ (fun K412 => ?_)
  · rintro ⟨gA, vA, gB, gC⟩ ρ w H
    refine r_op 8 rfl ?_
    refine q_markC (g := gB) H ?_; clear H; intro w H; replace H := St.asB H 4 rfl (by omega)
    exact q_nil (r_next Hold.nil (K422 (gA, vA, gB, gC) _ _ ⟨rfl, rfl, rfl, rfl, rfl, rfl, rfl, rfl, trivial⟩ (H.sub (by repeat (first | exact Sub.nil | apply Sub.cons | exact Take.z | apply Take.s)))))
  refine r_key (X := Nat × Value × Nat × Nat) (fun x => [(4, .pointer (some ⟨g4, 0, none⟩)), (10, .slice (some ⟨g5, 0, none⟩) 32 32), (13, .int .i64 e), (16, .slice (some ⟨g5, 0, none⟩) 32 32), (20, .slice (some ⟨g5, 0, none⟩) 32 32), (15, .agg (bs k1.l).toArray), (18, .slice (some ⟨x.2.2.1, 0, none⟩) 4 4), (21, .slice (some ⟨x.2.2.2, 0, none⟩) 5 5)]) (fun x w => St (fun _ => False) W [cells g5 (bs root.l) 26, cells g4 (cat [bs B32.zero.l, bs B32.zero.l, bs B32.zero.l]) 28, bsl (.slice (some ⟨x.2.2.1, 0, none⟩) 4 4) markW, cells x.2.2.2 (bs labelW) 5] w) 5 #[true, true, true, true, true, true, true, true, true, false, true, true, false, false, false, false] ?_ (fun K421 => ?_)
  · rintro ⟨gA, vA, gB, gC⟩ ρ w H
    refine r_two 9 12 rfl rfl ?_ ?_
    · refine q_call (K2C (.slice (some ⟨g5, 0, none⟩) 32 32) (.slice (some ⟨gB, 0, none⟩) 4 4) _ (H.rbC (g := g5) (by (repeat (first | exact Take.z | apply Take.s)); done) root.len (by omega)) (H.rbB (v := .slice (some ⟨gB, 0, none⟩) 4 4) (by (repeat (first | exact Take.z | apply Take.s)); done))) ?_; rintro _ w1 ⟨rfl, hNo⟩; replace H := H.no hNo; clear hNo; refine ⟨_, rfl, ?_⟩
      exact q_nil (r_next Hold.nil (K431 (gA, vA, gB, gC) _ _ ⟨rfl, rfl, rfl, rfl, rfl, rfl, rfl, rfl, trivial⟩ (H.sub (by repeat (first | exact Sub.nil | apply Sub.cons | exact Take.z | apply Take.s)))))
    · refine q_markC (g := gC) H ?_; clear H; intro w H; replace H := St.asB H 5 rfl (by omega)
      exact q_nil (r_next Hold.nil (K422 (gA, vA, gB, gC) _ _ ⟨rfl, rfl, rfl, rfl, rfl, rfl, rfl, rfl, trivial⟩ (H.sub (by repeat (first | exact Sub.nil | apply Sub.cons | exact Take.z | apply Take.s)))))
  refine r_key (X := Nat × Value × Nat × Nat) (fun x => [(4, .pointer (some ⟨g4, 0, none⟩)), (10, .slice (some ⟨g5, 0, none⟩) 32 32), (13, .int .i64 e), (16, .slice (some ⟨g5, 0, none⟩) 32 32), (20, .slice (some ⟨g5, 0, none⟩) 32 32), (15, .agg (bs k1.l).toArray), (19, .agg (bs k2.l).toArray)]) (fun x w => St (fun _ => False) W [cells g5 (bs root.l) 26, cells g4 (cat [bs B32.zero.l, bs B32.zero.l, bs B32.zero.l]) 28] w) 5 #[true, true, true, true, true, true, true, true, true, true, true, false, false, false, false, false] ?_ (fun K430 => ?_)
  · rintro ⟨gA, vA, gB, gC⟩ ρ w H
    refine r_op 11 rfl ?_
    refine q_constB labelW H ?_; clear H; intro gC w H
    exact q_nil (r_next Hold.nil (K431 (gA, vA, gB, gC) _ _ ⟨rfl, rfl, rfl, rfl, rfl, rfl, rfl, rfl, trivial⟩ (H.sub (by repeat (first | exact Sub.nil | apply Sub.cons | exact Take.z | apply Take.s)))))
  refine r_key (X := Nat × Value × Nat × Nat) (fun x => [(4, .pointer (some ⟨g4, 0, none⟩)), (10, .slice (some ⟨g5, 0, none⟩) 32 32), (13, .int .i64 e), (16, .slice (some ⟨g5, 0, none⟩) 32 32), (20, .slice (some ⟨g5, 0, none⟩) 32 32), (12, .slice (some ⟨x.1, 0, none⟩) 4 4), (18, .slice (some ⟨x.2.2.1, 0, none⟩) 4 4), (22, .slice (some ⟨x.2.2.2, 0, none⟩) 5 5)]) (fun x w => St (fun _ => False) W [cells g5 (bs root.l) 26, cells g4 (cat [bs B32.zero.l, bs B32.zero.l, bs B32.zero.l]) 28, bsl (.slice (some ⟨x.1, 0, none⟩) 4 4) sealW, bsl (.slice (some ⟨x.2.2.1, 0, none⟩) 4 4) markW, bsl (.slice (some ⟨x.2.2.2, 0, none⟩) 5 5) labelW] w) 6 #[true, true, true, true, false, false, true, true, true, false, true, true, true, false, false, false] ?_ (fun K222 => ?_)
  · rintro ⟨gA, vA, gB, gC⟩ ρ w H
    refine r_op 4 rfl ?_
    refine q_tri H (Put_tri e (.slice (some ⟨gA, 0, none⟩) 4 4) sealW _ he.1 he.2 (by decide)) ?_; clear H; rintro vA _ w rfl H
    exact q_nil (r_next Hold.nil (K322 (gA, vA, gB, gC) _ _ ⟨rfl, rfl, rfl, rfl, rfl, rfl, rfl, rfl, trivial⟩ (H.sub (by repeat (first | exact Sub.nil | apply Sub.cons | exact Take.z | apply Take.s)))))
  refine r_key (X := Nat × Value × Nat × Nat) (fun x => [(4, .pointer (some ⟨g4, 0, none⟩)), (10, .slice (some ⟨g5, 0, none⟩) 32 32), (13, .int .i64 e), (16, .slice (some ⟨g5, 0, none⟩) 32 32), (20, .slice (some ⟨g5, 0, none⟩) 32 32), (14, x.2.1), (17, .slice (some ⟨x.2.2.1, 0, none⟩) 4 4), (22, .slice (some ⟨x.2.2.2, 0, none⟩) 5 5)]) (fun x w => St (fun _ => False) W [cells g5 (bs root.l) 26, cells g4 (cat [bs B32.zero.l, bs B32.zero.l, bs B32.zero.l]) 28, bsl x.2.1 (sealW ++ putN e), cells x.2.2.1 (bs markW) 5, bsl (.slice (some ⟨x.2.2.2, 0, none⟩) 5 5) labelW] w) 6 #[true, true, true, true, true, false, true, true, false, false, true, true, true, false, false, false] ?_ (fun K312 => ?_)
  · rintro ⟨gA, vA, gB, gC⟩ ρ w H
    refine r_two 5 8 rfl rfl ?_ ?_
    · refine q_call (K1C (.slice (some ⟨g5, 0, none⟩) 32 32) vA _ (H.rbC (g := g5) (by (repeat (first | exact Take.z | apply Take.s)); done) root.len (by omega)) (H.rbB (v := vA) (by (repeat (first | exact Take.z | apply Take.s)); done))) ?_; rintro _ w1 ⟨rfl, hNo⟩; replace H := H.no hNo; clear hNo; refine ⟨_, rfl, ?_⟩
      exact q_nil (r_next Hold.nil (K412 (gA, vA, gB, gC) _ _ ⟨rfl, rfl, rfl, rfl, rfl, rfl, rfl, rfl, trivial⟩ (H.sub (by repeat (first | exact Sub.nil | apply Sub.cons | exact Take.z | apply Take.s)))))
    · refine q_markC (g := gB) H ?_; clear H; intro w H; replace H := St.asB H 4 rfl (by omega)
      exact q_nil (r_next Hold.nil (K322 (gA, vA, gB, gC) _ _ ⟨rfl, rfl, rfl, rfl, rfl, rfl, rfl, rfl, trivial⟩ (H.sub (by repeat (first | exact Sub.nil | apply Sub.cons | exact Take.z | apply Take.s)))))
  refine r_key (X := Nat × Value × Nat × Nat) (fun x => [(4, .pointer (some ⟨g4, 0, none⟩)), (10, .slice (some ⟨g5, 0, none⟩) 32 32), (13, .int .i64 e), (16, .slice (some ⟨g5, 0, none⟩) 32 32), (20, .slice (some ⟨g5, 0, none⟩) 32 32), (15, .agg (bs k1.l).toArray), (22, .slice (some ⟨x.2.2.2, 0, none⟩) 5 5)]) (fun x w => St (fun _ => False) W [cells g5 (bs root.l) 26, cells g4 (cat [bs B32.zero.l, bs B32.zero.l, bs B32.zero.l]) 28, bsl (.slice (some ⟨x.2.2.2, 0, none⟩) 5 5) labelW] w) 6 #[true, true, true, true, true, true, true, false, false, false, true, true, true, false, false, false] ?_ (fun K402 => ?_)
  · rintro ⟨gA, vA, gB, gC⟩ ρ w H
    refine r_op 7 rfl ?_
    refine q_constB markW H ?_; clear H; intro gB w H
    exact q_nil (r_next Hold.nil (K412 (gA, vA, gB, gC) _ _ ⟨rfl, rfl, rfl, rfl, rfl, rfl, rfl, rfl, trivial⟩ (H.sub (by repeat (first | exact Sub.nil | apply Sub.cons | exact Take.z | apply Take.s)))))
  refine r_key (X := Nat × Value × Nat × Nat) (fun x => [(4, .pointer (some ⟨g4, 0, none⟩)), (10, .slice (some ⟨g5, 0, none⟩) 32 32), (13, .int .i64 e), (16, .slice (some ⟨g5, 0, none⟩) 32 32), (20, .slice (some ⟨g5, 0, none⟩) 32 32), (14, x.2.1), (18, .slice (some ⟨x.2.2.1, 0, none⟩) 4 4), (21, .slice (some ⟨x.2.2.2, 0, none⟩) 5 5)]) (fun x w => St (fun _ => False) W [cells g5 (bs root.l) 26, cells g4 (cat [bs B32.zero.l, bs B32.zero.l, bs B32.zero.l]) 28, bsl x.2.1 (sealW ++ putN e), bsl (.slice (some ⟨x.2.2.1, 0, none⟩) 4 4) markW, cells x.2.2.2 (bs labelW) 5] w) 6 #[true, true, true, true, true, false, true, true, true, false, true, true, false, false, false, false] ?_ (fun K321 => ?_)
  · rintro ⟨gA, vA, gB, gC⟩ ρ w H
    refine r_two 5 12 rfl rfl ?_ ?_
    · refine q_call (K1C (.slice (some ⟨g5, 0, none⟩) 32 32) vA _ (H.rbC (g := g5) (by (repeat (first | exact Take.z | apply Take.s)); done) root.len (by omega)) (H.rbB (v := vA) (by (repeat (first | exact Take.z | apply Take.s)); done))) ?_; rintro _ w1 ⟨rfl, hNo⟩; replace H := H.no hNo; clear hNo; refine ⟨_, rfl, ?_⟩
      exact q_nil (r_next Hold.nil (K421 (gA, vA, gB, gC) _ _ ⟨rfl, rfl, rfl, rfl, rfl, rfl, rfl, rfl, trivial⟩ (H.sub (by repeat (first | exact Sub.nil | apply Sub.cons | exact Take.z | apply Take.s)))))
    · refine q_markC (g := gC) H ?_; clear H; intro w H; replace H := St.asB H 5 rfl (by omega)
      exact q_nil (r_next Hold.nil (K322 (gA, vA, gB, gC) _ _ ⟨rfl, rfl, rfl, rfl, rfl, rfl, rfl, rfl, trivial⟩ (H.sub (by repeat (first | exact Sub.nil | apply Sub.cons | exact Take.z | apply Take.s)))))
  refine r_key (X := Nat × Value × Nat × Nat) (fun x => [(4, .pointer (some ⟨g4, 0, none⟩)), (10, .slice (some ⟨g5, 0, none⟩) 32 32), (13, .int .i64 e), (16, .slice (some ⟨g5, 0, none⟩) 32 32), (20, .slice (some ⟨g5, 0, none⟩) 32 32), (15, .agg (bs k1.l).toArray), (17, .slice (some ⟨x.2.2.1, 0, none⟩) 4 4), (21, .slice (some ⟨x.2.2.2, 0, none⟩) 5 5)]) (fun x w => St (fun _ => False) W [cells g5 (bs root.l) 26, cells g4 (cat [bs B32.zero.l, bs B32.zero.l, bs B32.zero.l]) 28, cells x.2.2.1 (bs markW) 5, cells x.2.2.2 (bs labelW) 5] w) 6 #[true, true, true, true, true, true, true, true, false, false, true, true, false, false, false, false] ?_ (fun K411 => ?_)
  · rintro ⟨gA, vA, gB, gC⟩ ρ w H
    refine r_two 8 12 rfl rfl ?_ ?_
    · refine q_markC (g := gB) H ?_; clear H; intro w H; replace H := St.asB H 4 rfl (by omega)
      exact q_nil (r_next Hold.nil (K421 (gA, vA, gB, gC) _ _ ⟨rfl, rfl, rfl, rfl, rfl, rfl, rfl, rfl, trivial⟩ (H.sub (by repeat (first | exact Sub.nil | apply Sub.cons | exact Take.z | apply Take.s)))))
    · refine q_markC (g := gC) H ?_; clear H; intro w H; replace H := St.asB H 5 rfl (by omega)
      exact q_nil (r_next Hold.nil (K412 (gA, vA, gB, gC) _ _ ⟨rfl, rfl, rfl, rfl, rfl, rfl, rfl, rfl, trivial⟩ (H.sub (by repeat (first | exact Sub.nil | apply Sub.cons | exact Take.z | apply Take.s)))))
  refine r_key (X := Nat × Value × Nat × Nat) (fun x => [(4, .pointer (some ⟨g4, 0, none⟩)), (10, .slice (some ⟨g5, 0, none⟩) 32 32), (13, .int .i64 e), (16, .slice (some ⟨g5, 0, none⟩) 32 32), (20, .slice (some ⟨g5, 0, none⟩) 32 32), (15, .agg (bs k1.l).toArray), (18, .slice (some ⟨x.2.2.1, 0, none⟩) 4 4)]) (fun x w => St (fun _ => False) W [cells g5 (bs root.l) 26, cells g4 (cat [bs B32.zero.l, bs B32.zero.l, bs B32.zero.l]) 28, bsl (.slice (some ⟨x.2.2.1, 0, none⟩) 4 4) markW] w) 6 #[true, true, true, true, true, true, true, true, true, false, true, false, false, false, false, false] ?_ (fun K420 => ?_)
  · rintro ⟨gA, vA, gB, gC⟩ ρ w H
    refine r_two 9 11 rfl rfl ?_ ?_
    · refine q_call (K2C (.slice (some ⟨g5, 0, none⟩) 32 32) (.slice (some ⟨gB, 0, none⟩) 4 4) _ (H.rbC (g := g5) (by (repeat (first | exact Take.z | apply Take.s)); done) root.len (by omega)) (H.rbB (v := .slice (some ⟨gB, 0, none⟩) 4 4) (by (repeat (first | exact Take.z | apply Take.s)); done))) ?_; rintro _ w1 ⟨rfl, hNo⟩; replace H := H.no hNo; clear hNo; refine ⟨_, rfl, ?_⟩
      exact q_nil (r_next Hold.nil (K430 (gA, vA, gB, gC) _ _ ⟨rfl, rfl, rfl, rfl, rfl, rfl, rfl, trivial⟩ (H.sub (by repeat (first | exact Sub.nil | apply Sub.cons | exact Take.z | apply Take.s)))))
    · refine q_constB labelW H ?_; clear H; intro gC w H
      exact q_nil (r_next Hold.nil (K421 (gA, vA, gB, gC) _ _ ⟨rfl, rfl, rfl, rfl, rfl, rfl, rfl, rfl, trivial⟩ (H.sub (by repeat (first | exact Sub.nil | apply Sub.cons | exact Take.z | apply Take.s)))))
  refine r_key (X := Nat × Value × Nat × Nat) (fun x => [(4, .pointer (some ⟨g4, 0, none⟩)), (10, .slice (some ⟨g5, 0, none⟩) 32 32), (13, .int .i64 e), (16, .slice (some ⟨g5, 0, none⟩) 32 32), (20, .slice (some ⟨g5, 0, none⟩) 32 32), (11, .slice (some ⟨x.1, 0, none⟩) 4 4), (18, .slice (some ⟨x.2.2.1, 0, none⟩) 4 4), (22, .slice (some ⟨x.2.2.2, 0, none⟩) 5 5)]) (fun x w => St (fun _ => False) W [cells g5 (bs root.l) 26, cells g4 (cat [bs B32.zero.l, bs B32.zero.l, bs B32.zero.l]) 28, cells x.1 (bs sealW) 5, bsl (.slice (some ⟨x.2.2.1, 0, none⟩) 4 4) markW, bsl (.slice (some ⟨x.2.2.2, 0, none⟩) 5 5) labelW] w) 7 #[true, true, false, true, false, false, true, true, true, false, true, true, true, false, false, false] ?_ (fun K122 => ?_)
  · rintro ⟨gA, vA, gB, gC⟩ ρ w H
    refine r_op 2 rfl ?_
    refine q_markC (g := gA) H ?_; clear H; intro w H; replace H := St.asB H 4 rfl (by omega)
    exact q_nil (r_next Hold.nil (K222 (gA, vA, gB, gC) _ _ ⟨rfl, rfl, rfl, rfl, rfl, rfl, rfl, rfl, trivial⟩ (H.sub (by repeat (first | exact Sub.nil | apply Sub.cons | exact Take.z | apply Take.s)))))
  refine r_key (X := Nat × Value × Nat × Nat) (fun x => [(4, .pointer (some ⟨g4, 0, none⟩)), (10, .slice (some ⟨g5, 0, none⟩) 32 32), (13, .int .i64 e), (16, .slice (some ⟨g5, 0, none⟩) 32 32), (20, .slice (some ⟨g5, 0, none⟩) 32 32), (12, .slice (some ⟨x.1, 0, none⟩) 4 4), (17, .slice (some ⟨x.2.2.1, 0, none⟩) 4 4), (22, .slice (some ⟨x.2.2.2, 0, none⟩) 5 5)]) (fun x w => St (fun _ => False) W [cells g5 (bs root.l) 26, cells g4 (cat [bs B32.zero.l, bs B32.zero.l, bs B32.zero.l]) 28, bsl (.slice (some ⟨x.1, 0, none⟩) 4 4) sealW, cells x.2.2.1 (bs markW) 5, bsl (.slice (some ⟨x.2.2.2, 0, none⟩) 5 5) labelW] w) 7 #[true, true, true, true, false, false, true, true, false, false, true, true, true, false, false, false] ?_ (fun K212 => ?_)
  · rintro ⟨gA, vA, gB, gC⟩ ρ w H
    refine r_two 4 8 rfl rfl ?_ ?_
    · refine q_tri H (Put_tri e (.slice (some ⟨gA, 0, none⟩) 4 4) sealW _ he.1 he.2 (by decide)) ?_; clear H; rintro vA _ w rfl H
      exact q_nil (r_next Hold.nil (K312 (gA, vA, gB, gC) _ _ ⟨rfl, rfl, rfl, rfl, rfl, rfl, rfl, rfl, trivial⟩ (H.sub (by repeat (first | exact Sub.nil | apply Sub.cons | exact Take.z | apply Take.s)))))
    · refine q_markC (g := gB) H ?_; clear H; intro w H; replace H := St.asB H 4 rfl (by omega)
      exact q_nil (r_next Hold.nil (K222 (gA, vA, gB, gC) _ _ ⟨rfl, rfl, rfl, rfl, rfl, rfl, rfl, rfl, trivial⟩ (H.sub (by repeat (first | exact Sub.nil | apply Sub.cons | exact Take.z | apply Take.s)))))
  refine r_key (X := Nat × Value × Nat × Nat) (fun x => [(4, .pointer (some ⟨g4, 0, none⟩)), (10, .slice (some ⟨g5, 0, none⟩) 32 32), (13, .int .i64 e), (16, .slice (some ⟨g5, 0, none⟩) 32 32), (20, .slice (some ⟨g5, 0, none⟩) 32 32), (14, x.2.1), (22, .slice (some ⟨x.2.2.2, 0, none⟩) 5 5)]) (fun x w => St (fun _ => False) W [cells g5 (bs root.l) 26, cells g4 (cat [bs B32.zero.l, bs B32.zero.l, bs B32.zero.l]) 28, bsl x.2.1 (sealW ++ putN e), bsl (.slice (some ⟨x.2.2.2, 0, none⟩) 5 5) labelW] w) 7 #[true, true, true, true, true, false, true, false, false, false, true, true, true, false, false, false] ?_ (fun K302 => ?_)
  · rintro ⟨gA, vA, gB, gC⟩ ρ w H
    refine r_two 5 7 rfl rfl ?_ ?_
    · refine q_call (K1C (.slice (some ⟨g5, 0, none⟩) 32 32) vA _ (H.rbC (g := g5) (by (repeat (first | exact Take.z | apply Take.s)); done) root.len (by omega)) (H.rbB (v := vA) (by (repeat (first | exact Take.z | apply Take.s)); done))) ?_; rintro _ w1 ⟨rfl, hNo⟩; replace H := H.no hNo; clear hNo; refine ⟨_, rfl, ?_⟩
      exact q_nil (r_next Hold.nil (K402 (gA, vA, gB, gC) _ _ ⟨rfl, rfl, rfl, rfl, rfl, rfl, rfl, trivial⟩ (H.sub (by repeat (first | exact Sub.nil | apply Sub.cons | exact Take.z | apply Take.s)))))
    · refine q_constB markW H ?_; clear H; intro gB w H
      exact q_nil (r_next Hold.nil (K312 (gA, vA, gB, gC) _ _ ⟨rfl, rfl, rfl, rfl, rfl, rfl, rfl, rfl, trivial⟩ (H.sub (by repeat (first | exact Sub.nil | apply Sub.cons | exact Take.z | apply Take.s)))))
  refine r_key (X := Nat × Value × Nat × Nat) (fun x => [(4, .pointer (some ⟨g4, 0, none⟩)), (10, .slice (some ⟨g5, 0, none⟩) 32 32), (13, .int .i64 e), (16, .slice (some ⟨g5, 0, none⟩) 32 32), (20, .slice (some ⟨g5, 0, none⟩) 32 32), (12, .slice (some ⟨x.1, 0, none⟩) 4 4), (18, .slice (some ⟨x.2.2.1, 0, none⟩) 4 4), (21, .slice (some ⟨x.2.2.2, 0, none⟩) 5 5)]) (fun x w => St (fun _ => False) W [cells g5 (bs root.l) 26, cells g4 (cat [bs B32.zero.l, bs B32.zero.l, bs B32.zero.l]) 28, bsl (.slice (some ⟨x.1, 0, none⟩) 4 4) sealW, bsl (.slice (some ⟨x.2.2.1, 0, none⟩) 4 4) markW, cells x.2.2.2 (bs labelW) 5] w) 7 #[true, true, true, true, false, false, true, true, true, false, true, true, false, false, false, false] ?_ (fun K221 => ?_)
  · rintro ⟨gA, vA, gB, gC⟩ ρ w H
    refine r_two 4 12 rfl rfl ?_ ?_
    · refine q_tri H (Put_tri e (.slice (some ⟨gA, 0, none⟩) 4 4) sealW _ he.1 he.2 (by decide)) ?_; clear H; rintro vA _ w rfl H
      exact q_nil (r_next Hold.nil (K321 (gA, vA, gB, gC) _ _ ⟨rfl, rfl, rfl, rfl, rfl, rfl, rfl, rfl, trivial⟩ (H.sub (by repeat (first | exact Sub.nil | apply Sub.cons | exact Take.z | apply Take.s)))))
    · refine q_markC (g := gC) H ?_; clear H; intro w H; replace H := St.asB H 5 rfl (by omega)
      exact q_nil (r_next Hold.nil (K222 (gA, vA, gB, gC) _ _ ⟨rfl, rfl, rfl, rfl, rfl, rfl, rfl, rfl, trivial⟩ (H.sub (by repeat (first | exact Sub.nil | apply Sub.cons | exact Take.z | apply Take.s)))))
  refine r_key (X := Nat × Value × Nat × Nat) (fun x => [(4, .pointer (some ⟨g4, 0, none⟩)), (10, .slice (some ⟨g5, 0, none⟩) 32 32), (13, .int .i64 e), (16, .slice (some ⟨g5, 0, none⟩) 32 32), (20, .slice (some ⟨g5, 0, none⟩) 32 32), (14, x.2.1), (17, .slice (some ⟨x.2.2.1, 0, none⟩) 4 4), (21, .slice (some ⟨x.2.2.2, 0, none⟩) 5 5)]) (fun x w => St (fun _ => False) W [cells g5 (bs root.l) 26, cells g4 (cat [bs B32.zero.l, bs B32.zero.l, bs B32.zero.l]) 28, bsl x.2.1 (sealW ++ putN e), cells x.2.2.1 (bs markW) 5, cells x.2.2.2 (bs labelW) 5] w) 7 #[true, true, true, true, true, false, true, true, false, false, true, true, false, false, false, false] ?_ (fun K311 => ?_)
  · rintro ⟨gA, vA, gB, gC⟩ ρ w H
    refine r_three 5 8 12 rfl rfl rfl ?_ ?_ ?_
    · refine q_call (K1C (.slice (some ⟨g5, 0, none⟩) 32 32) vA _ (H.rbC (g := g5) (by (repeat (first | exact Take.z | apply Take.s)); done) root.len (by omega)) (H.rbB (v := vA) (by (repeat (first | exact Take.z | apply Take.s)); done))) ?_; rintro _ w1 ⟨rfl, hNo⟩; replace H := H.no hNo; clear hNo; refine ⟨_, rfl, ?_⟩
      exact q_nil (r_next Hold.nil (K411 (gA, vA, gB, gC) _ _ ⟨rfl, rfl, rfl, rfl, rfl, rfl, rfl, rfl, trivial⟩ (H.sub (by repeat (first | exact Sub.nil | apply Sub.cons | exact Take.z | apply Take.s)))))
    · refine q_markC (g := gB) H ?_; clear H; intro w H; replace H := St.asB H 4 rfl (by omega)
      exact q_nil (r_next Hold.nil (K321 (gA, vA, gB, gC) _ _ ⟨rfl, rfl, rfl, rfl, rfl, rfl, rfl, rfl, trivial⟩ (H.sub (by repeat (first | exact Sub.nil | apply Sub.cons | exact Take.z | apply Take.s)))))
    · refine q_markC (g := gC) H ?_; clear H; intro w H; replace H := St.asB H 5 rfl (by omega)
      exact q_nil (r_next Hold.nil (K312 (gA, vA, gB, gC) _ _ ⟨rfl, rfl, rfl, rfl, rfl, rfl, rfl, rfl, trivial⟩ (H.sub (by repeat (first | exact Sub.nil | apply Sub.cons | exact Take.z | apply Take.s)))))
  refine r_key (X := Nat × Value × Nat × Nat) (fun x => [(4, .pointer (some ⟨g4, 0, none⟩)), (10, .slice (some ⟨g5, 0, none⟩) 32 32), (13, .int .i64 e), (16, .slice (some ⟨g5, 0, none⟩) 32 32), (20, .slice (some ⟨g5, 0, none⟩) 32 32), (15, .agg (bs k1.l).toArray), (21, .slice (some ⟨x.2.2.2, 0, none⟩) 5 5)]) (fun x w => St (fun _ => False) W [cells g5 (bs root.l) 26, cells g4 (cat [bs B32.zero.l, bs B32.zero.l, bs B32.zero.l]) 28, cells x.2.2.2 (bs labelW) 5] w) 7 #[true, true, true, true, true, true, true, false, false, false, true, true, false, false, false, false] ?_ (fun K401 => ?_)
  · rintro ⟨gA, vA, gB, gC⟩ ρ w H
    refine r_two 7 12 rfl rfl ?_ ?_
    · refine q_constB markW H ?_; clear H; intro gB w H
      exact q_nil (r_next Hold.nil (K411 (gA, vA, gB, gC) _ _ ⟨rfl, rfl, rfl, rfl, rfl, rfl, rfl, rfl, trivial⟩ (H.sub (by repeat (first | exact Sub.nil | apply Sub.cons | exact Take.z | apply Take.s)))))
    · refine q_markC (g := gC) H ?_; clear H; intro w H; replace H := St.asB H 5 rfl (by omega)
      exact q_nil (r_next Hold.nil (K402 (gA, vA, gB, gC) _ _ ⟨rfl, rfl, rfl, rfl, rfl, rfl, rfl, trivial⟩ (H.sub (by repeat (first | exact Sub.nil | apply Sub.cons | exact Take.z | apply Take.s)))))
  refine r_key (X := Nat × Value × Nat × Nat) (fun x => [(4, .pointer (some ⟨g4, 0, none⟩)), (10, .slice (some ⟨g5, 0, none⟩) 32 32), (13, .int .i64 e), (16, .slice (some ⟨g5, 0, none⟩) 32 32), (20, .slice (some ⟨g5, 0, none⟩) 32 32), (14, x.2.1), (18, .slice (some ⟨x.2.2.1, 0, none⟩) 4 4)]) (fun x w => St (fun _ => False) W [cells g5 (bs root.l) 26, cells g4 (cat [bs B32.zero.l, bs B32.zero.l, bs B32.zero.l]) 28, bsl x.2.1 (sealW ++ putN e), bsl (.slice (some ⟨x.2.2.1, 0, none⟩) 4 4) markW] w) 7 #[true, true, true, true, true, false, true, true, true, false, true, false, false, false, false, false] ?_ (fun K320 => ?_)
  · rintro ⟨gA, vA, gB, gC⟩ ρ w H
    refine r_two 5 11 rfl rfl ?_ ?_
    · refine q_call (K1C (.slice (some ⟨g5, 0, none⟩) 32 32) vA _ (H.rbC (g := g5) (by (repeat (first | exact Take.z | apply Take.s)); done) root.len (by omega)) (H.rbB (v := vA) (by (repeat (first | exact Take.z | apply Take.s)); done))) ?_; rintro _ w1 ⟨rfl, hNo⟩; replace H := H.no hNo; clear hNo; refine ⟨_, rfl, ?_⟩
      exact q_nil (r_next Hold.nil (K420 (gA, vA, gB, gC) _ _ ⟨rfl, rfl, rfl, rfl, rfl, rfl, rfl, trivial⟩ (H.sub (by repeat (first | exact Sub.nil | apply Sub.cons | exact Take.z | apply Take.s)))))
    · refine q_constB labelW H ?_; clear H; intro gC w H
      exact q_nil (r_next Hold.nil (K321 (gA, vA, gB, gC) _ _ ⟨rfl, rfl, rfl, rfl, rfl, rfl, rfl, rfl, trivial⟩ (H.sub (by repeat (first | exact Sub.nil | apply Sub.cons | exact Take.z | apply Take.s)))))
  refine r_key (X := Nat × Value × Nat × Nat) (fun x => [(4, .pointer (some ⟨g4, 0, none⟩)), (10, .slice (some ⟨g5, 0, none⟩) 32 32), (13, .int .i64 e), (16, .slice (some ⟨g5, 0, none⟩) 32 32), (20, .slice (some ⟨g5, 0, none⟩) 32 32), (15, .agg (bs k1.l).toArray), (17, .slice (some ⟨x.2.2.1, 0, none⟩) 4 4)]) (fun x w => St (fun _ => False) W [cells g5 (bs root.l) 26, cells g4 (cat [bs B32.zero.l, bs B32.zero.l, bs B32.zero.l]) 28, cells x.2.2.1 (bs markW) 5] w) 7 #[true, true, true, true, true, true, true, true, false, false, true, false, false, false, false, false] ?_ (fun K410 => ?_)
  · rintro ⟨gA, vA, gB, gC⟩ ρ w H
    refine r_two 8 11 rfl rfl ?_ ?_
    · refine q_markC (g := gB) H ?_; clear H; intro w H; replace H := St.asB H 4 rfl (by omega)
      exact q_nil (r_next Hold.nil (K420 (gA, vA, gB, gC) _ _ ⟨rfl, rfl, rfl, rfl, rfl, rfl, rfl, trivial⟩ (H.sub (by repeat (first | exact Sub.nil | apply Sub.cons | exact Take.z | apply Take.s)))))
    · refine q_constB labelW H ?_; clear H; intro gC w H
      exact q_nil (r_next Hold.nil (K411 (gA, vA, gB, gC) _ _ ⟨rfl, rfl, rfl, rfl, rfl, rfl, rfl, rfl, trivial⟩ (H.sub (by repeat (first | exact Sub.nil | apply Sub.cons | exact Take.z | apply Take.s)))))
  refine r_key (X := Nat × Value × Nat × Nat) (fun x => [(4, .pointer (some ⟨g4, 0, none⟩)), (10, .slice (some ⟨g5, 0, none⟩) 32 32), (13, .int .i64 e), (16, .slice (some ⟨g5, 0, none⟩) 32 32), (20, .slice (some ⟨g5, 0, none⟩) 32 32), (18, .slice (some ⟨x.2.2.1, 0, none⟩) 4 4), (22, .slice (some ⟨x.2.2.2, 0, none⟩) 5 5)]) (fun x w => St (fun _ => False) W [cells g5 (bs root.l) 26, cells g4 (cat [bs B32.zero.l, bs B32.zero.l, bs B32.zero.l]) 28, bsl (.slice (some ⟨x.2.2.1, 0, none⟩) 4 4) markW, bsl (.slice (some ⟨x.2.2.2, 0, none⟩) 5 5) labelW] w) 8 #[true, false, false, true, false, false, true, true, true, false, true, true, true, false, false, false] ?_ (fun K022 => ?_)
  · rintro ⟨gA, vA, gB, gC⟩ ρ w H
    refine r_op 1 rfl ?_
    refine q_constB sealW H ?_; clear H; intro gA w H
    exact q_nil (r_next Hold.nil (K122 (gA, vA, gB, gC) _ _ ⟨rfl, rfl, rfl, rfl, rfl, rfl, rfl, rfl, trivial⟩ (H.sub (by repeat (first | exact Sub.nil | apply Sub.cons | exact Take.z | apply Take.s)))))
  refine r_key (X := Nat × Value × Nat × Nat) (fun x => [(4, .pointer (some ⟨g4, 0, none⟩)), (10, .slice (some ⟨g5, 0, none⟩) 32 32), (13, .int .i64 e), (16, .slice (some ⟨g5, 0, none⟩) 32 32), (20, .slice (some ⟨g5, 0, none⟩) 32 32), (11, .slice (some ⟨x.1, 0, none⟩) 4 4), (17, .slice (some ⟨x.2.2.1, 0, none⟩) 4 4), (22, .slice (some ⟨x.2.2.2, 0, none⟩) 5 5)]) (fun x w => St (fun _ => False) W [cells g5 (bs root.l) 26, cells g4 (cat [bs B32.zero.l, bs B32.zero.l, bs B32.zero.l]) 28, cells x.1 (bs sealW) 5, cells x.2.2.1 (bs markW) 5, bsl (.slice (some ⟨x.2.2.2, 0, none⟩) 5 5) labelW] w) 8 #[true, true, false, true, false, false, true, true, false, false, true, true, true, false, false, false] ?_ (fun K112 => ?_)
  · rintro ⟨gA, vA, gB, gC⟩ ρ w H
    refine r_two 2 8 rfl rfl ?_ ?_
    · refine q_markC (g := gA) H ?_; clear H; intro w H; replace H := St.asB H 4 rfl (by omega)
      exact q_nil (r_next Hold.nil (K212 (gA, vA, gB, gC) _ _ ⟨rfl, rfl, rfl, rfl, rfl, rfl, rfl, rfl, trivial⟩ (H.sub (by repeat (first | exact Sub.nil | apply Sub.cons | exact Take.z | apply Take.s)))))
    · refine q_markC (g := gB) H ?_; clear H; intro w H; replace H := St.asB H 4 rfl (by omega)
      exact q_nil (r_next Hold.nil (K122 (gA, vA, gB, gC) _ _ ⟨rfl, rfl, rfl, rfl, rfl, rfl, rfl, rfl, trivial⟩ (H.sub (by repeat (first | exact Sub.nil | apply Sub.cons | exact Take.z | apply Take.s)))))
  refine r_key (X := Nat × Value × Nat × Nat) (fun x => [(4, .pointer (some ⟨g4, 0, none⟩)), (10, .slice (some ⟨g5, 0, none⟩) 32 32), (13, .int .i64 e), (16, .slice (some ⟨g5, 0, none⟩) 32 32), (20, .slice (some ⟨g5, 0, none⟩) 32 32), (12, .slice (some ⟨x.1, 0, none⟩) 4 4), (22, .slice (some ⟨x.2.2.2, 0, none⟩) 5 5)]) (fun x w => St (fun _ => False) W [cells g5 (bs root.l) 26, cells g4 (cat [bs B32.zero.l, bs B32.zero.l, bs B32.zero.l]) 28, bsl (.slice (some ⟨x.1, 0, none⟩) 4 4) sealW, bsl (.slice (some ⟨x.2.2.2, 0, none⟩) 5 5) labelW] w) 8 #[true, true, true, true, false, false, true, false, false, false, true, true, true, false, false, false] ?_ (fun K202 => ?_)
  · rintro ⟨gA, vA, gB, gC⟩ ρ w H
    refine r_two 4 7 rfl rfl ?_ ?_
    · refine q_tri H (Put_tri e (.slice (some ⟨gA, 0, none⟩) 4 4) sealW _ he.1 he.2 (by decide)) ?_; clear H; rintro vA _ w rfl H
      exact q_nil (r_next Hold.nil (K302 (gA, vA, gB, gC) _ _ ⟨rfl, rfl, rfl, rfl, rfl, rfl, rfl, trivial⟩ (H.sub (by repeat (first | exact Sub.nil | apply Sub.cons | exact Take.z | apply Take.s)))))
    · refine q_constB markW H ?_; clear H; intro gB w H
      exact q_nil (r_next Hold.nil (K212 (gA, vA, gB, gC) _ _ ⟨rfl, rfl, rfl, rfl, rfl, rfl, rfl, rfl, trivial⟩ (H.sub (by repeat (first | exact Sub.nil | apply Sub.cons | exact Take.z | apply Take.s)))))
  refine r_key (X := Nat × Value × Nat × Nat) (fun x => [(4, .pointer (some ⟨g4, 0, none⟩)), (10, .slice (some ⟨g5, 0, none⟩) 32 32), (13, .int .i64 e), (16, .slice (some ⟨g5, 0, none⟩) 32 32), (20, .slice (some ⟨g5, 0, none⟩) 32 32), (11, .slice (some ⟨x.1, 0, none⟩) 4 4), (18, .slice (some ⟨x.2.2.1, 0, none⟩) 4 4), (21, .slice (some ⟨x.2.2.2, 0, none⟩) 5 5)]) (fun x w => St (fun _ => False) W [cells g5 (bs root.l) 26, cells g4 (cat [bs B32.zero.l, bs B32.zero.l, bs B32.zero.l]) 28, cells x.1 (bs sealW) 5, bsl (.slice (some ⟨x.2.2.1, 0, none⟩) 4 4) markW, cells x.2.2.2 (bs labelW) 5] w) 8 #[true, true, false, true, false, false, true, true, true, false, true, true, false, false, false, false] ?_ (fun K121 => ?_)
  · rintro ⟨gA, vA, gB, gC⟩ ρ w H
    refine r_two 2 12 rfl rfl ?_ ?_
    · refine q_markC (g := gA) H ?_; clear H; intro w H; replace H := St.asB H 4 rfl (by omega)
      exact q_nil (r_next Hold.nil (K221 (gA, vA, gB, gC) _ _ ⟨rfl, rfl, rfl, rfl, rfl, rfl, rfl, rfl, trivial⟩ (H.sub (by repeat (first | exact Sub.nil | apply Sub.cons | exact Take.z | apply Take.s)))))
    · refine q_markC (g := gC) H ?_; clear H; intro w H; replace H := St.asB H 5 rfl (by omega)
      exact q_nil (r_next Hold.nil (K122 (gA, vA, gB, gC) _ _ ⟨rfl, rfl, rfl, rfl, rfl, rfl, rfl, rfl, trivial⟩ (H.sub (by repeat (first | exact Sub.nil | apply Sub.cons | exact Take.z | apply Take.s)))))
  refine r_key (X := Nat × Value × Nat × Nat) (fun x => [(4, .pointer (some ⟨g4, 0, none⟩)), (10, .slice (some ⟨g5, 0, none⟩) 32 32), (13, .int .i64 e), (16, .slice (some ⟨g5, 0, none⟩) 32 32), (20, .slice (some ⟨g5, 0, none⟩) 32 32), (12, .slice (some ⟨x.1, 0, none⟩) 4 4), (17, .slice (some ⟨x.2.2.1, 0, none⟩) 4 4), (21, .slice (some ⟨x.2.2.2, 0, none⟩) 5 5)]) (fun x w => St (fun _ => False) W [cells g5 (bs root.l) 26, cells g4 (cat [bs B32.zero.l, bs B32.zero.l, bs B32.zero.l]) 28, bsl (.slice (some ⟨x.1, 0, none⟩) 4 4) sealW, cells x.2.2.1 (bs markW) 5, cells x.2.2.2 (bs labelW) 5] w) 8 #[true, true, true, true, false, false, true, true, false, false, true, true, false, false, false, false] ?_ (fun K211 => ?_)
  · rintro ⟨gA, vA, gB, gC⟩ ρ w H
    refine r_three 4 8 12 rfl rfl rfl ?_ ?_ ?_
    · refine q_tri H (Put_tri e (.slice (some ⟨gA, 0, none⟩) 4 4) sealW _ he.1 he.2 (by decide)) ?_; clear H; rintro vA _ w rfl H
      exact q_nil (r_next Hold.nil (K311 (gA, vA, gB, gC) _ _ ⟨rfl, rfl, rfl, rfl, rfl, rfl, rfl, rfl, trivial⟩ (H.sub (by repeat (first | exact Sub.nil | apply Sub.cons | exact Take.z | apply Take.s)))))
    · refine q_markC (g := gB) H ?_; clear H; intro w H; replace H := St.asB H 4 rfl (by omega)
      exact q_nil (r_next Hold.nil (K221 (gA, vA, gB, gC) _ _ ⟨rfl, rfl, rfl, rfl, rfl, rfl, rfl, rfl, trivial⟩ (H.sub (by repeat (first | exact Sub.nil | apply Sub.cons | exact Take.z | apply Take.s)))))
    · refine q_markC (g := gC) H ?_; clear H; intro w H; replace H := St.asB H 5 rfl (by omega)
      exact q_nil (r_next Hold.nil (K212 (gA, vA, gB, gC) _ _ ⟨rfl, rfl, rfl, rfl, rfl, rfl, rfl, rfl, trivial⟩ (H.sub (by repeat (first | exact Sub.nil | apply Sub.cons | exact Take.z | apply Take.s)))))
  refine r_key (X := Nat × Value × Nat × Nat) (fun x => [(4, .pointer (some ⟨g4, 0, none⟩)), (10, .slice (some ⟨g5, 0, none⟩) 32 32), (13, .int .i64 e), (16, .slice (some ⟨g5, 0, none⟩) 32 32), (20, .slice (some ⟨g5, 0, none⟩) 32 32), (14, x.2.1), (21, .slice (some ⟨x.2.2.2, 0, none⟩) 5 5)]) (fun x w => St (fun _ => False) W [cells g5 (bs root.l) 26, cells g4 (cat [bs B32.zero.l, bs B32.zero.l, bs B32.zero.l]) 28, bsl x.2.1 (sealW ++ putN e), cells x.2.2.2 (bs labelW) 5] w) 8 #[true, true, true, true, true, false, true, false, false, false, true, true, false, false, false, false] ?_ (fun K301 => ?_)
  · rintro ⟨gA, vA, gB, gC⟩ ρ w H
    refine r_three 5 7 12 rfl rfl rfl ?_ ?_ ?_
    · refine q_call (K1C (.slice (some ⟨g5, 0, none⟩) 32 32) vA _ (H.rbC (g := g5) (by (repeat (first | exact Take.z | apply Take.s)); done) root.len (by omega)) (H.rbB (v := vA) (by (repeat (first | exact Take.z | apply Take.s)); done))) ?_; rintro _ w1 ⟨rfl, hNo⟩; replace H := H.no hNo; clear hNo; refine ⟨_, rfl, ?_⟩
      exact q_nil (r_next Hold.nil (K401 (gA, vA, gB, gC) _ _ ⟨rfl, rfl, rfl, rfl, rfl, rfl, rfl, trivial⟩ (H.sub (by repeat (first | exact Sub.nil | apply Sub.cons | exact Take.z | apply Take.s)))))
    · refine q_constB markW H ?_; clear H; intro gB w H
      exact q_nil (r_next Hold.nil (K311 (gA, vA, gB, gC) _ _ ⟨rfl, rfl, rfl, rfl, rfl, rfl, rfl, rfl, trivial⟩ (H.sub (by repeat (first | exact Sub.nil | apply Sub.cons | exact Take.z | apply Take.s)))))
    · refine q_markC (g := gC) H ?_; clear H; intro w H; replace H := St.asB H 5 rfl (by omega)
      exact q_nil (r_next Hold.nil (K302 (gA, vA, gB, gC) _ _ ⟨rfl, rfl, rfl, rfl, rfl, rfl, rfl, trivial⟩ (H.sub (by repeat (first | exact Sub.nil | apply Sub.cons | exact Take.z | apply Take.s)))))
  refine r_key (X := Nat × Value × Nat × Nat) (fun x => [(4, .pointer (some ⟨g4, 0, none⟩)), (10, .slice (some ⟨g5, 0, none⟩) 32 32), (13, .int .i64 e), (16, .slice (some ⟨g5, 0, none⟩) 32 32), (20, .slice (some ⟨g5, 0, none⟩) 32 32), (12, .slice (some ⟨x.1, 0, none⟩) 4 4), (18, .slice (some ⟨x.2.2.1, 0, none⟩) 4 4)]) (fun x w => St (fun _ => False) W [cells g5 (bs root.l) 26, cells g4 (cat [bs B32.zero.l, bs B32.zero.l, bs B32.zero.l]) 28, bsl (.slice (some ⟨x.1, 0, none⟩) 4 4) sealW, bsl (.slice (some ⟨x.2.2.1, 0, none⟩) 4 4) markW] w) 8 #[true, true, true, true, false, false, true, true, true, false, true, false, false, false, false, false] ?_ (fun K220 => ?_)
  · rintro ⟨gA, vA, gB, gC⟩ ρ w H
    refine r_two 4 11 rfl rfl ?_ ?_
    · refine q_tri H (Put_tri e (.slice (some ⟨gA, 0, none⟩) 4 4) sealW _ he.1 he.2 (by decide)) ?_; clear H; rintro vA _ w rfl H
      exact q_nil (r_next Hold.nil (K320 (gA, vA, gB, gC) _ _ ⟨rfl, rfl, rfl, rfl, rfl, rfl, rfl, trivial⟩ (H.sub (by repeat (first | exact Sub.nil | apply Sub.cons | exact Take.z | apply Take.s)))))
    · refine q_constB labelW H ?_; clear H; intro gC w H
      exact q_nil (r_next Hold.nil (K221 (gA, vA, gB, gC) _ _ ⟨rfl, rfl, rfl, rfl, rfl, rfl, rfl, rfl, trivial⟩ (H.sub (by repeat (first | exact Sub.nil | apply Sub.cons | exact Take.z | apply Take.s)))))
  refine r_key (X := Nat × Value × Nat × Nat) (fun x => [(4, .pointer (some ⟨g4, 0, none⟩)), (10, .slice (some ⟨g5, 0, none⟩) 32 32), (13, .int .i64 e), (16, .slice (some ⟨g5, 0, none⟩) 32 32), (20, .slice (some ⟨g5, 0, none⟩) 32 32), (14, x.2.1), (17, .slice (some ⟨x.2.2.1, 0, none⟩) 4 4)]) (fun x w => St (fun _ => False) W [cells g5 (bs root.l) 26, cells g4 (cat [bs B32.zero.l, bs B32.zero.l, bs B32.zero.l]) 28, bsl x.2.1 (sealW ++ putN e), cells x.2.2.1 (bs markW) 5] w) 8 #[true, true, true, true, true, false, true, true, false, false, true, false, false, false, false, false] ?_ (fun K310 => ?_)
  · rintro ⟨gA, vA, gB, gC⟩ ρ w H
    refine r_three 5 8 11 rfl rfl rfl ?_ ?_ ?_
    · refine q_call (K1C (.slice (some ⟨g5, 0, none⟩) 32 32) vA _ (H.rbC (g := g5) (by (repeat (first | exact Take.z | apply Take.s)); done) root.len (by omega)) (H.rbB (v := vA) (by (repeat (first | exact Take.z | apply Take.s)); done))) ?_; rintro _ w1 ⟨rfl, hNo⟩; replace H := H.no hNo; clear hNo; refine ⟨_, rfl, ?_⟩
      exact q_nil (r_next Hold.nil (K410 (gA, vA, gB, gC) _ _ ⟨rfl, rfl, rfl, rfl, rfl, rfl, rfl, trivial⟩ (H.sub (by repeat (first | exact Sub.nil | apply Sub.cons | exact Take.z | apply Take.s)))))
    · refine q_markC (g := gB) H ?_; clear H; intro w H; replace H := St.asB H 4 rfl (by omega)
      exact q_nil (r_next Hold.nil (K320 (gA, vA, gB, gC) _ _ ⟨rfl, rfl, rfl, rfl, rfl, rfl, rfl, trivial⟩ (H.sub (by repeat (first | exact Sub.nil | apply Sub.cons | exact Take.z | apply Take.s)))))
    · refine q_constB labelW H ?_; clear H; intro gC w H
      exact q_nil (r_next Hold.nil (K311 (gA, vA, gB, gC) _ _ ⟨rfl, rfl, rfl, rfl, rfl, rfl, rfl, rfl, trivial⟩ (H.sub (by repeat (first | exact Sub.nil | apply Sub.cons | exact Take.z | apply Take.s)))))
  refine r_key (X := Nat × Value × Nat × Nat) (fun x => [(4, .pointer (some ⟨g4, 0, none⟩)), (10, .slice (some ⟨g5, 0, none⟩) 32 32), (13, .int .i64 e), (16, .slice (some ⟨g5, 0, none⟩) 32 32), (20, .slice (some ⟨g5, 0, none⟩) 32 32), (15, .agg (bs k1.l).toArray)]) (fun x w => St (fun _ => False) W [cells g5 (bs root.l) 26, cells g4 (cat [bs B32.zero.l, bs B32.zero.l, bs B32.zero.l]) 28] w) 8 #[true, true, true, true, true, true, true, false, false, false, true, false, false, false, false, false] ?_ (fun K400 => ?_)
  · rintro ⟨gA, vA, gB, gC⟩ ρ w H
    refine r_two 7 11 rfl rfl ?_ ?_
    · refine q_constB markW H ?_; clear H; intro gB w H
      exact q_nil (r_next Hold.nil (K410 (gA, vA, gB, gC) _ _ ⟨rfl, rfl, rfl, rfl, rfl, rfl, rfl, trivial⟩ (H.sub (by repeat (first | exact Sub.nil | apply Sub.cons | exact Take.z | apply Take.s)))))
    · refine q_constB labelW H ?_; clear H; intro gC w H
      exact q_nil (r_next Hold.nil (K401 (gA, vA, gB, gC) _ _ ⟨rfl, rfl, rfl, rfl, rfl, rfl, rfl, trivial⟩ (H.sub (by repeat (first | exact Sub.nil | apply Sub.cons | exact Take.z | apply Take.s)))))
  refine r_key (X := Nat × Value × Nat × Nat) (fun x => [(4, .pointer (some ⟨g4, 0, none⟩)), (10, .slice (some ⟨g5, 0, none⟩) 32 32), (13, .int .i64 e), (16, .slice (some ⟨g5, 0, none⟩) 32 32), (20, .slice (some ⟨g5, 0, none⟩) 32 32), (17, .slice (some ⟨x.2.2.1, 0, none⟩) 4 4), (22, .slice (some ⟨x.2.2.2, 0, none⟩) 5 5)]) (fun x w => St (fun _ => False) W [cells g5 (bs root.l) 26, cells g4 (cat [bs B32.zero.l, bs B32.zero.l, bs B32.zero.l]) 28, cells x.2.2.1 (bs markW) 5, bsl (.slice (some ⟨x.2.2.2, 0, none⟩) 5 5) labelW] w) 9 #[true, false, false, true, false, false, true, true, false, false, true, true, true, false, false, false] ?_ (fun K012 => ?_)
  · rintro ⟨gA, vA, gB, gC⟩ ρ w H
    refine r_two 1 8 rfl rfl ?_ ?_
    · refine q_constB sealW H ?_; clear H; intro gA w H
      exact q_nil (r_next Hold.nil (K112 (gA, vA, gB, gC) _ _ ⟨rfl, rfl, rfl, rfl, rfl, rfl, rfl, rfl, trivial⟩ (H.sub (by repeat (first | exact Sub.nil | apply Sub.cons | exact Take.z | apply Take.s)))))
    · refine q_markC (g := gB) H ?_; clear H; intro w H; replace H := St.asB H 4 rfl (by omega)
      exact q_nil (r_next Hold.nil (K022 (gA, vA, gB, gC) _ _ ⟨rfl, rfl, rfl, rfl, rfl, rfl, rfl, trivial⟩ (H.sub (by repeat (first | exact Sub.nil | apply Sub.cons | exact Take.z | apply Take.s)))))
  refine r_key (X := Nat × Value × Nat × Nat) (fun x => [(4, .pointer (some ⟨g4, 0, none⟩)), (10, .slice (some ⟨g5, 0, none⟩) 32 32), (13, .int .i64 e), (16, .slice (some ⟨g5, 0, none⟩) 32 32), (20, .slice (some ⟨g5, 0, none⟩) 32 32), (11, .slice (some ⟨x.1, 0, none⟩) 4 4), (22, .slice (some ⟨x.2.2.2, 0, none⟩) 5 5)]) (fun x w => St (fun _ => False) W [cells g5 (bs root.l) 26, cells g4 (cat [bs B32.zero.l, bs B32.zero.l, bs B32.zero.l]) 28, cells x.1 (bs sealW) 5, bsl (.slice (some ⟨x.2.2.2, 0, none⟩) 5 5) labelW] w) 9 #[true, true, false, true, false, false, true, false, false, false, true, true, true, false, false, false] ?_ (fun K102 => ?_)
  · rintro ⟨gA, vA, gB, gC⟩ ρ w H
    refine r_two 2 7 rfl rfl ?_ ?_
    · refine q_markC (g := gA) H ?_; clear H; intro w H; replace H := St.asB H 4 rfl (by omega)
      exact q_nil (r_next Hold.nil (K202 (gA, vA, gB, gC) _ _ ⟨rfl, rfl, rfl, rfl, rfl, rfl, rfl, trivial⟩ (H.sub (by repeat (first | exact Sub.nil | apply Sub.cons | exact Take.z | apply Take.s)))))
    · refine q_constB markW H ?_; clear H; intro gB w H
      exact q_nil (r_next Hold.nil (K112 (gA, vA, gB, gC) _ _ ⟨rfl, rfl, rfl, rfl, rfl, rfl, rfl, rfl, trivial⟩ (H.sub (by repeat (first | exact Sub.nil | apply Sub.cons | exact Take.z | apply Take.s)))))
  refine r_key (X := Nat × Value × Nat × Nat) (fun x => [(4, .pointer (some ⟨g4, 0, none⟩)), (10, .slice (some ⟨g5, 0, none⟩) 32 32), (13, .int .i64 e), (16, .slice (some ⟨g5, 0, none⟩) 32 32), (20, .slice (some ⟨g5, 0, none⟩) 32 32), (18, .slice (some ⟨x.2.2.1, 0, none⟩) 4 4), (21, .slice (some ⟨x.2.2.2, 0, none⟩) 5 5)]) (fun x w => St (fun _ => False) W [cells g5 (bs root.l) 26, cells g4 (cat [bs B32.zero.l, bs B32.zero.l, bs B32.zero.l]) 28, bsl (.slice (some ⟨x.2.2.1, 0, none⟩) 4 4) markW, cells x.2.2.2 (bs labelW) 5] w) 9 #[true, false, false, true, false, false, true, true, true, false, true, true, false, false, false, false] ?_ (fun K021 => ?_)
  · rintro ⟨gA, vA, gB, gC⟩ ρ w H
    refine r_two 1 12 rfl rfl ?_ ?_
    · refine q_constB sealW H ?_; clear H; intro gA w H
      exact q_nil (r_next Hold.nil (K121 (gA, vA, gB, gC) _ _ ⟨rfl, rfl, rfl, rfl, rfl, rfl, rfl, rfl, trivial⟩ (H.sub (by repeat (first | exact Sub.nil | apply Sub.cons | exact Take.z | apply Take.s)))))
    · refine q_markC (g := gC) H ?_; clear H; intro w H; replace H := St.asB H 5 rfl (by omega)
      exact q_nil (r_next Hold.nil (K022 (gA, vA, gB, gC) _ _ ⟨rfl, rfl, rfl, rfl, rfl, rfl, rfl, trivial⟩ (H.sub (by repeat (first | exact Sub.nil | apply Sub.cons | exact Take.z | apply Take.s)))))
  refine r_key (X := Nat × Value × Nat × Nat) (fun x => [(4, .pointer (some ⟨g4, 0, none⟩)), (10, .slice (some ⟨g5, 0, none⟩) 32 32), (13, .int .i64 e), (16, .slice (some ⟨g5, 0, none⟩) 32 32), (20, .slice (some ⟨g5, 0, none⟩) 32 32), (11, .slice (some ⟨x.1, 0, none⟩) 4 4), (17, .slice (some ⟨x.2.2.1, 0, none⟩) 4 4), (21, .slice (some ⟨x.2.2.2, 0, none⟩) 5 5)]) (fun x w => St (fun _ => False) W [cells g5 (bs root.l) 26, cells g4 (cat [bs B32.zero.l, bs B32.zero.l, bs B32.zero.l]) 28, cells x.1 (bs sealW) 5, cells x.2.2.1 (bs markW) 5, cells x.2.2.2 (bs labelW) 5] w) 9 #[true, true, false, true, false, false, true, true, false, false, true, true, false, false, false, false] ?_ (fun K111 => ?_)
  · rintro ⟨gA, vA, gB, gC⟩ ρ w H
    refine r_three 2 8 12 rfl rfl rfl ?_ ?_ ?_
    · refine q_markC (g := gA) H ?_; clear H; intro w H; replace H := St.asB H 4 rfl (by omega)
      exact q_nil (r_next Hold.nil (K211 (gA, vA, gB, gC) _ _ ⟨rfl, rfl, rfl, rfl, rfl, rfl, rfl, rfl, trivial⟩ (H.sub (by repeat (first | exact Sub.nil | apply Sub.cons | exact Take.z | apply Take.s)))))
    · refine q_markC (g := gB) H ?_; clear H; intro w H; replace H := St.asB H 4 rfl (by omega)
      exact q_nil (r_next Hold.nil (K121 (gA, vA, gB, gC) _ _ ⟨rfl, rfl, rfl, rfl, rfl, rfl, rfl, rfl, trivial⟩ (H.sub (by repeat (first | exact Sub.nil | apply Sub.cons | exact Take.z | apply Take.s)))))
    · refine q_markC (g := gC) H ?_; clear H; intro w H; replace H := St.asB H 5 rfl (by omega)
      exact q_nil (r_next Hold.nil (K112 (gA, vA, gB, gC) _ _ ⟨rfl, rfl, rfl, rfl, rfl, rfl, rfl, rfl, trivial⟩ (H.sub (by repeat (first | exact Sub.nil | apply Sub.cons | exact Take.z | apply Take.s)))))
  refine r_key (X := Nat × Value × Nat × Nat) (fun x => [(4, .pointer (some ⟨g4, 0, none⟩)), (10, .slice (some ⟨g5, 0, none⟩) 32 32), (13, .int .i64 e), (16, .slice (some ⟨g5, 0, none⟩) 32 32), (20, .slice (some ⟨g5, 0, none⟩) 32 32), (12, .slice (some ⟨x.1, 0, none⟩) 4 4), (21, .slice (some ⟨x.2.2.2, 0, none⟩) 5 5)]) (fun x w => St (fun _ => False) W [cells g5 (bs root.l) 26, cells g4 (cat [bs B32.zero.l, bs B32.zero.l, bs B32.zero.l]) 28, bsl (.slice (some ⟨x.1, 0, none⟩) 4 4) sealW, cells x.2.2.2 (bs labelW) 5] w) 9 #[true, true, true, true, false, false, true, false, false, false, true, true, false, false, false, false] ?_ (fun K201 => ?_)
  · rintro ⟨gA, vA, gB, gC⟩ ρ w H
    refine r_three 4 7 12 rfl rfl rfl ?_ ?_ ?_
    · refine q_tri H (Put_tri e (.slice (some ⟨gA, 0, none⟩) 4 4) sealW _ he.1 he.2 (by decide)) ?_; clear H; rintro vA _ w rfl H
      exact q_nil (r_next Hold.nil (K301 (gA, vA, gB, gC) _ _ ⟨rfl, rfl, rfl, rfl, rfl, rfl, rfl, trivial⟩ (H.sub (by repeat (first | exact Sub.nil | apply Sub.cons | exact Take.z | apply Take.s)))))
    · refine q_constB markW H ?_; clear H; intro gB w H
      exact q_nil (r_next Hold.nil (K211 (gA, vA, gB, gC) _ _ ⟨rfl, rfl, rfl, rfl, rfl, rfl, rfl, rfl, trivial⟩ (H.sub (by repeat (first | exact Sub.nil | apply Sub.cons | exact Take.z | apply Take.s)))))
    · refine q_markC (g := gC) H ?_; clear H; intro w H; replace H := St.asB H 5 rfl (by omega)
      exact q_nil (r_next Hold.nil (K202 (gA, vA, gB, gC) _ _ ⟨rfl, rfl, rfl, rfl, rfl, rfl, rfl, trivial⟩ (H.sub (by repeat (first | exact Sub.nil | apply Sub.cons | exact Take.z | apply Take.s)))))
  refine r_key (X := Nat × Value × Nat × Nat) (fun x => [(4, .pointer (some ⟨g4, 0, none⟩)), (10, .slice (some ⟨g5, 0, none⟩) 32 32), (13, .int .i64 e), (16, .slice (some ⟨g5, 0, none⟩) 32 32), (20, .slice (some ⟨g5, 0, none⟩) 32 32), (11, .slice (some ⟨x.1, 0, none⟩) 4 4), (18, .slice (some ⟨x.2.2.1, 0, none⟩) 4 4)]) (fun x w => St (fun _ => False) W [cells g5 (bs root.l) 26, cells g4 (cat [bs B32.zero.l, bs B32.zero.l, bs B32.zero.l]) 28, cells x.1 (bs sealW) 5, bsl (.slice (some ⟨x.2.2.1, 0, none⟩) 4 4) markW] w) 9 #[true, true, false, true, false, false, true, true, true, false, true, false, false, false, false, false] ?_ (fun K120 => ?_)
  · rintro ⟨gA, vA, gB, gC⟩ ρ w H
    refine r_two 2 11 rfl rfl ?_ ?_
    · refine q_markC (g := gA) H ?_; clear H; intro w H; replace H := St.asB H 4 rfl (by omega)
      exact q_nil (r_next Hold.nil (K220 (gA, vA, gB, gC) _ _ ⟨rfl, rfl, rfl, rfl, rfl, rfl, rfl, trivial⟩ (H.sub (by repeat (first | exact Sub.nil | apply Sub.cons | exact Take.z | apply Take.s)))))
    · refine q_constB labelW H ?_; clear H; intro gC w H
      exact q_nil (r_next Hold.nil (K121 (gA, vA, gB, gC) _ _ ⟨rfl, rfl, rfl, rfl, rfl, rfl, rfl, rfl, trivial⟩ (H.sub (by repeat (first | exact Sub.nil | apply Sub.cons | exact Take.z | apply Take.s)))))
  refine r_key (X := Nat × Value × Nat × Nat) (fun x => [(4, .pointer (some ⟨g4, 0, none⟩)), (10, .slice (some ⟨g5, 0, none⟩) 32 32), (13, .int .i64 e), (16, .slice (some ⟨g5, 0, none⟩) 32 32), (20, .slice (some ⟨g5, 0, none⟩) 32 32), (12, .slice (some ⟨x.1, 0, none⟩) 4 4), (17, .slice (some ⟨x.2.2.1, 0, none⟩) 4 4)]) (fun x w => St (fun _ => False) W [cells g5 (bs root.l) 26, cells g4 (cat [bs B32.zero.l, bs B32.zero.l, bs B32.zero.l]) 28, bsl (.slice (some ⟨x.1, 0, none⟩) 4 4) sealW, cells x.2.2.1 (bs markW) 5] w) 9 #[true, true, true, true, false, false, true, true, false, false, true, false, false, false, false, false] ?_ (fun K210 => ?_)
  · rintro ⟨gA, vA, gB, gC⟩ ρ w H
    refine r_three 4 8 11 rfl rfl rfl ?_ ?_ ?_
    · refine q_tri H (Put_tri e (.slice (some ⟨gA, 0, none⟩) 4 4) sealW _ he.1 he.2 (by decide)) ?_; clear H; rintro vA _ w rfl H
      exact q_nil (r_next Hold.nil (K310 (gA, vA, gB, gC) _ _ ⟨rfl, rfl, rfl, rfl, rfl, rfl, rfl, trivial⟩ (H.sub (by repeat (first | exact Sub.nil | apply Sub.cons | exact Take.z | apply Take.s)))))
    · refine q_markC (g := gB) H ?_; clear H; intro w H; replace H := St.asB H 4 rfl (by omega)
      exact q_nil (r_next Hold.nil (K220 (gA, vA, gB, gC) _ _ ⟨rfl, rfl, rfl, rfl, rfl, rfl, rfl, trivial⟩ (H.sub (by repeat (first | exact Sub.nil | apply Sub.cons | exact Take.z | apply Take.s)))))
    · refine q_constB labelW H ?_; clear H; intro gC w H
      exact q_nil (r_next Hold.nil (K211 (gA, vA, gB, gC) _ _ ⟨rfl, rfl, rfl, rfl, rfl, rfl, rfl, rfl, trivial⟩ (H.sub (by repeat (first | exact Sub.nil | apply Sub.cons | exact Take.z | apply Take.s)))))
  refine r_key (X := Nat × Value × Nat × Nat) (fun x => [(4, .pointer (some ⟨g4, 0, none⟩)), (10, .slice (some ⟨g5, 0, none⟩) 32 32), (13, .int .i64 e), (16, .slice (some ⟨g5, 0, none⟩) 32 32), (20, .slice (some ⟨g5, 0, none⟩) 32 32), (14, x.2.1)]) (fun x w => St (fun _ => False) W [cells g5 (bs root.l) 26, cells g4 (cat [bs B32.zero.l, bs B32.zero.l, bs B32.zero.l]) 28, bsl x.2.1 (sealW ++ putN e)] w) 9 #[true, true, true, true, true, false, true, false, false, false, true, false, false, false, false, false] ?_ (fun K300 => ?_)
  · rintro ⟨gA, vA, gB, gC⟩ ρ w H
    refine r_three 5 7 11 rfl rfl rfl ?_ ?_ ?_
    · refine q_call (K1C (.slice (some ⟨g5, 0, none⟩) 32 32) vA _ (H.rbC (g := g5) (by (repeat (first | exact Take.z | apply Take.s)); done) root.len (by omega)) (H.rbB (v := vA) (by (repeat (first | exact Take.z | apply Take.s)); done))) ?_; rintro _ w1 ⟨rfl, hNo⟩; replace H := H.no hNo; clear hNo; refine ⟨_, rfl, ?_⟩
      exact q_nil (r_next Hold.nil (K400 (gA, vA, gB, gC) _ _ ⟨rfl, rfl, rfl, rfl, rfl, rfl, trivial⟩ (H.sub (by repeat (first | exact Sub.nil | apply Sub.cons | exact Take.z | apply Take.s)))))
    · refine q_constB markW H ?_; clear H; intro gB w H
      exact q_nil (r_next Hold.nil (K310 (gA, vA, gB, gC) _ _ ⟨rfl, rfl, rfl, rfl, rfl, rfl, rfl, trivial⟩ (H.sub (by repeat (first | exact Sub.nil | apply Sub.cons | exact Take.z | apply Take.s)))))
    · refine q_constB labelW H ?_; clear H; intro gC w H
      exact q_nil (r_next Hold.nil (K301 (gA, vA, gB, gC) _ _ ⟨rfl, rfl, rfl, rfl, rfl, rfl, rfl, trivial⟩ (H.sub (by repeat (first | exact Sub.nil | apply Sub.cons | exact Take.z | apply Take.s)))))
  refine r_key (X := Nat × Value × Nat × Nat) (fun x => [(4, .pointer (some ⟨g4, 0, none⟩)), (10, .slice (some ⟨g5, 0, none⟩) 32 32), (13, .int .i64 e), (16, .slice (some ⟨g5, 0, none⟩) 32 32), (20, .slice (some ⟨g5, 0, none⟩) 32 32), (22, .slice (some ⟨x.2.2.2, 0, none⟩) 5 5)]) (fun x w => St (fun _ => False) W [cells g5 (bs root.l) 26, cells g4 (cat [bs B32.zero.l, bs B32.zero.l, bs B32.zero.l]) 28, bsl (.slice (some ⟨x.2.2.2, 0, none⟩) 5 5) labelW] w) 10 #[true, false, false, true, false, false, true, false, false, false, true, true, true, false, false, false] ?_ (fun K002 => ?_)
  · rintro ⟨gA, vA, gB, gC⟩ ρ w H
    refine r_two 1 7 rfl rfl ?_ ?_
    · refine q_constB sealW H ?_; clear H; intro gA w H
      exact q_nil (r_next Hold.nil (K102 (gA, vA, gB, gC) _ _ ⟨rfl, rfl, rfl, rfl, rfl, rfl, rfl, trivial⟩ (H.sub (by repeat (first | exact Sub.nil | apply Sub.cons | exact Take.z | apply Take.s)))))
    · refine q_constB markW H ?_; clear H; intro gB w H
      exact q_nil (r_next Hold.nil (K012 (gA, vA, gB, gC) _ _ ⟨rfl, rfl, rfl, rfl, rfl, rfl, rfl, trivial⟩ (H.sub (by repeat (first | exact Sub.nil | apply Sub.cons | exact Take.z | apply Take.s)))))
  refine r_key (X := Nat × Value × Nat × Nat) (fun x => [(4, .pointer (some ⟨g4, 0, none⟩)), (10, .slice (some ⟨g5, 0, none⟩) 32 32), (13, .int .i64 e), (16, .slice (some ⟨g5, 0, none⟩) 32 32), (20, .slice (some ⟨g5, 0, none⟩) 32 32), (17, .slice (some ⟨x.2.2.1, 0, none⟩) 4 4), (21, .slice (some ⟨x.2.2.2, 0, none⟩) 5 5)]) (fun x w => St (fun _ => False) W [cells g5 (bs root.l) 26, cells g4 (cat [bs B32.zero.l, bs B32.zero.l, bs B32.zero.l]) 28, cells x.2.2.1 (bs markW) 5, cells x.2.2.2 (bs labelW) 5] w) 10 #[true, false, false, true, false, false, true, true, false, false, true, true, false, false, false, false] ?_ (fun K011 => ?_)
  · rintro ⟨gA, vA, gB, gC⟩ ρ w H
    refine r_three 1 8 12 rfl rfl rfl ?_ ?_ ?_
    · refine q_constB sealW H ?_; clear H; intro gA w H
      exact q_nil (r_next Hold.nil (K111 (gA, vA, gB, gC) _ _ ⟨rfl, rfl, rfl, rfl, rfl, rfl, rfl, rfl, trivial⟩ (H.sub (by repeat (first | exact Sub.nil | apply Sub.cons | exact Take.z | apply Take.s)))))
    · refine q_markC (g := gB) H ?_; clear H; intro w H; replace H := St.asB H 4 rfl (by omega)
      exact q_nil (r_next Hold.nil (K021 (gA, vA, gB, gC) _ _ ⟨rfl, rfl, rfl, rfl, rfl, rfl, rfl, trivial⟩ (H.sub (by repeat (first | exact Sub.nil | apply Sub.cons | exact Take.z | apply Take.s)))))
    · refine q_markC (g := gC) H ?_; clear H; intro w H; replace H := St.asB H 5 rfl (by omega)
      exact q_nil (r_next Hold.nil (K012 (gA, vA, gB, gC) _ _ ⟨rfl, rfl, rfl, rfl, rfl, rfl, rfl, trivial⟩ (H.sub (by repeat (first | exact Sub.nil | apply Sub.cons | exact Take.z | apply Take.s)))))
  refine r_key (X := Nat × Value × Nat × Nat) (fun x => [(4, .pointer (some ⟨g4, 0, none⟩)), (10, .slice (some ⟨g5, 0, none⟩) 32 32), (13, .int .i64 e), (16, .slice (some ⟨g5, 0, none⟩) 32 32), (20, .slice (some ⟨g5, 0, none⟩) 32 32), (11, .slice (some ⟨x.1, 0, none⟩) 4 4), (21, .slice (some ⟨x.2.2.2, 0, none⟩) 5 5)]) (fun x w => St (fun _ => False) W [cells g5 (bs root.l) 26, cells g4 (cat [bs B32.zero.l, bs B32.zero.l, bs B32.zero.l]) 28, cells x.1 (bs sealW) 5, cells x.2.2.2 (bs labelW) 5] w) 10 #[true, true, false, true, false, false, true, false, false, false, true, true, false, false, false, false] ?_ (fun K101 => ?_)
  · rintro ⟨gA, vA, gB, gC⟩ ρ w H
    refine r_three 2 7 12 rfl rfl rfl ?_ ?_ ?_
    · refine q_markC (g := gA) H ?_; clear H; intro w H; replace H := St.asB H 4 rfl (by omega)
      exact q_nil (r_next Hold.nil (K201 (gA, vA, gB, gC) _ _ ⟨rfl, rfl, rfl, rfl, rfl, rfl, rfl, trivial⟩ (H.sub (by repeat (first | exact Sub.nil | apply Sub.cons | exact Take.z | apply Take.s)))))
    · refine q_constB markW H ?_; clear H; intro gB w H
      exact q_nil (r_next Hold.nil (K111 (gA, vA, gB, gC) _ _ ⟨rfl, rfl, rfl, rfl, rfl, rfl, rfl, rfl, trivial⟩ (H.sub (by repeat (first | exact Sub.nil | apply Sub.cons | exact Take.z | apply Take.s)))))
    · refine q_markC (g := gC) H ?_; clear H; intro w H; replace H := St.asB H 5 rfl (by omega)
      exact q_nil (r_next Hold.nil (K102 (gA, vA, gB, gC) _ _ ⟨rfl, rfl, rfl, rfl, rfl, rfl, rfl, trivial⟩ (H.sub (by repeat (first | exact Sub.nil | apply Sub.cons | exact Take.z | apply Take.s)))))
  refine r_key (X := Nat × Value × Nat × Nat) (fun x => [(4, .pointer (some ⟨g4, 0, none⟩)), (10, .slice (some ⟨g5, 0, none⟩) 32 32), (13, .int .i64 e), (16, .slice (some ⟨g5, 0, none⟩) 32 32), (20, .slice (some ⟨g5, 0, none⟩) 32 32), (18, .slice (some ⟨x.2.2.1, 0, none⟩) 4 4)]) (fun x w => St (fun _ => False) W [cells g5 (bs root.l) 26, cells g4 (cat [bs B32.zero.l, bs B32.zero.l, bs B32.zero.l]) 28, bsl (.slice (some ⟨x.2.2.1, 0, none⟩) 4 4) markW] w) 10 #[true, false, false, true, false, false, true, true, true, false, true, false, false, false, false, false] ?_ (fun K020 => ?_)
  · rintro ⟨gA, vA, gB, gC⟩ ρ w H
    refine r_two 1 11 rfl rfl ?_ ?_
    · refine q_constB sealW H ?_; clear H; intro gA w H
      exact q_nil (r_next Hold.nil (K120 (gA, vA, gB, gC) _ _ ⟨rfl, rfl, rfl, rfl, rfl, rfl, rfl, trivial⟩ (H.sub (by repeat (first | exact Sub.nil | apply Sub.cons | exact Take.z | apply Take.s)))))
    · refine q_constB labelW H ?_; clear H; intro gC w H
      exact q_nil (r_next Hold.nil (K021 (gA, vA, gB, gC) _ _ ⟨rfl, rfl, rfl, rfl, rfl, rfl, rfl, trivial⟩ (H.sub (by repeat (first | exact Sub.nil | apply Sub.cons | exact Take.z | apply Take.s)))))
  refine r_key (X := Nat × Value × Nat × Nat) (fun x => [(4, .pointer (some ⟨g4, 0, none⟩)), (10, .slice (some ⟨g5, 0, none⟩) 32 32), (13, .int .i64 e), (16, .slice (some ⟨g5, 0, none⟩) 32 32), (20, .slice (some ⟨g5, 0, none⟩) 32 32), (11, .slice (some ⟨x.1, 0, none⟩) 4 4), (17, .slice (some ⟨x.2.2.1, 0, none⟩) 4 4)]) (fun x w => St (fun _ => False) W [cells g5 (bs root.l) 26, cells g4 (cat [bs B32.zero.l, bs B32.zero.l, bs B32.zero.l]) 28, cells x.1 (bs sealW) 5, cells x.2.2.1 (bs markW) 5] w) 10 #[true, true, false, true, false, false, true, true, false, false, true, false, false, false, false, false] ?_ (fun K110 => ?_)
  · rintro ⟨gA, vA, gB, gC⟩ ρ w H
    refine r_three 2 8 11 rfl rfl rfl ?_ ?_ ?_
    · refine q_markC (g := gA) H ?_; clear H; intro w H; replace H := St.asB H 4 rfl (by omega)
      exact q_nil (r_next Hold.nil (K210 (gA, vA, gB, gC) _ _ ⟨rfl, rfl, rfl, rfl, rfl, rfl, rfl, trivial⟩ (H.sub (by repeat (first | exact Sub.nil | apply Sub.cons | exact Take.z | apply Take.s)))))
    · refine q_markC (g := gB) H ?_; clear H; intro w H; replace H := St.asB H 4 rfl (by omega)
      exact q_nil (r_next Hold.nil (K120 (gA, vA, gB, gC) _ _ ⟨rfl, rfl, rfl, rfl, rfl, rfl, rfl, trivial⟩ (H.sub (by repeat (first | exact Sub.nil | apply Sub.cons | exact Take.z | apply Take.s)))))
    · refine q_constB labelW H ?_; clear H; intro gC w H
      exact q_nil (r_next Hold.nil (K111 (gA, vA, gB, gC) _ _ ⟨rfl, rfl, rfl, rfl, rfl, rfl, rfl, rfl, trivial⟩ (H.sub (by repeat (first | exact Sub.nil | apply Sub.cons | exact Take.z | apply Take.s)))))
  refine r_key (X := Nat × Value × Nat × Nat) (fun x => [(4, .pointer (some ⟨g4, 0, none⟩)), (10, .slice (some ⟨g5, 0, none⟩) 32 32), (13, .int .i64 e), (16, .slice (some ⟨g5, 0, none⟩) 32 32), (20, .slice (some ⟨g5, 0, none⟩) 32 32), (12, .slice (some ⟨x.1, 0, none⟩) 4 4)]) (fun x w => St (fun _ => False) W [cells g5 (bs root.l) 26, cells g4 (cat [bs B32.zero.l, bs B32.zero.l, bs B32.zero.l]) 28, bsl (.slice (some ⟨x.1, 0, none⟩) 4 4) sealW] w) 10 #[true, true, true, true, false, false, true, false, false, false, true, false, false, false, false, false] ?_ (fun K200 => ?_)
  · rintro ⟨gA, vA, gB, gC⟩ ρ w H
    refine r_three 4 7 11 rfl rfl rfl ?_ ?_ ?_
    · refine q_tri H (Put_tri e (.slice (some ⟨gA, 0, none⟩) 4 4) sealW _ he.1 he.2 (by decide)) ?_; clear H; rintro vA _ w rfl H
      exact q_nil (r_next Hold.nil (K300 (gA, vA, gB, gC) _ _ ⟨rfl, rfl, rfl, rfl, rfl, rfl, trivial⟩ (H.sub (by repeat (first | exact Sub.nil | apply Sub.cons | exact Take.z | apply Take.s)))))
    · refine q_constB markW H ?_; clear H; intro gB w H
      exact q_nil (r_next Hold.nil (K210 (gA, vA, gB, gC) _ _ ⟨rfl, rfl, rfl, rfl, rfl, rfl, rfl, trivial⟩ (H.sub (by repeat (first | exact Sub.nil | apply Sub.cons | exact Take.z | apply Take.s)))))
    · refine q_constB labelW H ?_; clear H; intro gC w H
      exact q_nil (r_next Hold.nil (K201 (gA, vA, gB, gC) _ _ ⟨rfl, rfl, rfl, rfl, rfl, rfl, rfl, trivial⟩ (H.sub (by repeat (first | exact Sub.nil | apply Sub.cons | exact Take.z | apply Take.s)))))
  refine r_key (X := Nat × Value × Nat × Nat) (fun x => [(4, .pointer (some ⟨g4, 0, none⟩)), (10, .slice (some ⟨g5, 0, none⟩) 32 32), (13, .int .i64 e), (16, .slice (some ⟨g5, 0, none⟩) 32 32), (20, .slice (some ⟨g5, 0, none⟩) 32 32), (21, .slice (some ⟨x.2.2.2, 0, none⟩) 5 5)]) (fun x w => St (fun _ => False) W [cells g5 (bs root.l) 26, cells g4 (cat [bs B32.zero.l, bs B32.zero.l, bs B32.zero.l]) 28, cells x.2.2.2 (bs labelW) 5] w) 11 #[true, false, false, true, false, false, true, false, false, false, true, true, false, false, false, false] ?_ (fun K001 => ?_)
  · rintro ⟨gA, vA, gB, gC⟩ ρ w H
    refine r_three 1 7 12 rfl rfl rfl ?_ ?_ ?_
    · refine q_constB sealW H ?_; clear H; intro gA w H
      exact q_nil (r_next Hold.nil (K101 (gA, vA, gB, gC) _ _ ⟨rfl, rfl, rfl, rfl, rfl, rfl, rfl, trivial⟩ (H.sub (by repeat (first | exact Sub.nil | apply Sub.cons | exact Take.z | apply Take.s)))))
    · refine q_constB markW H ?_; clear H; intro gB w H
      exact q_nil (r_next Hold.nil (K011 (gA, vA, gB, gC) _ _ ⟨rfl, rfl, rfl, rfl, rfl, rfl, rfl, trivial⟩ (H.sub (by repeat (first | exact Sub.nil | apply Sub.cons | exact Take.z | apply Take.s)))))
    · refine q_markC (g := gC) H ?_; clear H; intro w H; replace H := St.asB H 5 rfl (by omega)
      exact q_nil (r_next Hold.nil (K002 (gA, vA, gB, gC) _ _ ⟨rfl, rfl, rfl, rfl, rfl, rfl, trivial⟩ (H.sub (by repeat (first | exact Sub.nil | apply Sub.cons | exact Take.z | apply Take.s)))))
  refine r_key (X := Nat × Value × Nat × Nat) (fun x => [(4, .pointer (some ⟨g4, 0, none⟩)), (10, .slice (some ⟨g5, 0, none⟩) 32 32), (13, .int .i64 e), (16, .slice (some ⟨g5, 0, none⟩) 32 32), (20, .slice (some ⟨g5, 0, none⟩) 32 32), (17, .slice (some ⟨x.2.2.1, 0, none⟩) 4 4)]) (fun x w => St (fun _ => False) W [cells g5 (bs root.l) 26, cells g4 (cat [bs B32.zero.l, bs B32.zero.l, bs B32.zero.l]) 28, cells x.2.2.1 (bs markW) 5] w) 11 #[true, false, false, true, false, false, true, true, false, false, true, false, false, false, false, false] ?_ (fun K010 => ?_)
  · rintro ⟨gA, vA, gB, gC⟩ ρ w H
    refine r_three 1 8 11 rfl rfl rfl ?_ ?_ ?_
    · refine q_constB sealW H ?_; clear H; intro gA w H
      exact q_nil (r_next Hold.nil (K110 (gA, vA, gB, gC) _ _ ⟨rfl, rfl, rfl, rfl, rfl, rfl, rfl, trivial⟩ (H.sub (by repeat (first | exact Sub.nil | apply Sub.cons | exact Take.z | apply Take.s)))))
    · refine q_markC (g := gB) H ?_; clear H; intro w H; replace H := St.asB H 4 rfl (by omega)
      exact q_nil (r_next Hold.nil (K020 (gA, vA, gB, gC) _ _ ⟨rfl, rfl, rfl, rfl, rfl, rfl, trivial⟩ (H.sub (by repeat (first | exact Sub.nil | apply Sub.cons | exact Take.z | apply Take.s)))))
    · refine q_constB labelW H ?_; clear H; intro gC w H
      exact q_nil (r_next Hold.nil (K011 (gA, vA, gB, gC) _ _ ⟨rfl, rfl, rfl, rfl, rfl, rfl, rfl, trivial⟩ (H.sub (by repeat (first | exact Sub.nil | apply Sub.cons | exact Take.z | apply Take.s)))))
  refine r_key (X := Nat × Value × Nat × Nat) (fun x => [(4, .pointer (some ⟨g4, 0, none⟩)), (10, .slice (some ⟨g5, 0, none⟩) 32 32), (13, .int .i64 e), (16, .slice (some ⟨g5, 0, none⟩) 32 32), (20, .slice (some ⟨g5, 0, none⟩) 32 32), (11, .slice (some ⟨x.1, 0, none⟩) 4 4)]) (fun x w => St (fun _ => False) W [cells g5 (bs root.l) 26, cells g4 (cat [bs B32.zero.l, bs B32.zero.l, bs B32.zero.l]) 28, cells x.1 (bs sealW) 5] w) 11 #[true, true, false, true, false, false, true, false, false, false, true, false, false, false, false, false] ?_ (fun K100 => ?_)
  · rintro ⟨gA, vA, gB, gC⟩ ρ w H
    refine r_three 2 7 11 rfl rfl rfl ?_ ?_ ?_
    · refine q_markC (g := gA) H ?_; clear H; intro w H; replace H := St.asB H 4 rfl (by omega)
      exact q_nil (r_next Hold.nil (K200 (gA, vA, gB, gC) _ _ ⟨rfl, rfl, rfl, rfl, rfl, rfl, trivial⟩ (H.sub (by repeat (first | exact Sub.nil | apply Sub.cons | exact Take.z | apply Take.s)))))
    · refine q_constB markW H ?_; clear H; intro gB w H
      exact q_nil (r_next Hold.nil (K110 (gA, vA, gB, gC) _ _ ⟨rfl, rfl, rfl, rfl, rfl, rfl, rfl, trivial⟩ (H.sub (by repeat (first | exact Sub.nil | apply Sub.cons | exact Take.z | apply Take.s)))))
    · refine q_constB labelW H ?_; clear H; intro gC w H
      exact q_nil (r_next Hold.nil (K101 (gA, vA, gB, gC) _ _ ⟨rfl, rfl, rfl, rfl, rfl, rfl, rfl, trivial⟩ (H.sub (by repeat (first | exact Sub.nil | apply Sub.cons | exact Take.z | apply Take.s)))))
  have gA := 0
  have vA : Value := .slice none 0 0
  have gB := 0
  have gC := 0
  refine r_three 1 7 11 rfl rfl rfl ?_ ?_ ?_
  · refine q_constB sealW H ?_; clear H; intro gA w H
    exact q_nil (r_next Hold.nil (K100 (gA, vA, gB, gC) _ _ ⟨rfl, rfl, rfl, rfl, rfl, rfl, trivial⟩ (H.sub (by repeat (first | exact Sub.nil | apply Sub.cons | exact Take.z | apply Take.s)))))
  · refine q_constB markW H ?_; clear H; intro gB w H
    exact q_nil (r_next Hold.nil (K010 (gA, vA, gB, gC) _ _ ⟨rfl, rfl, rfl, rfl, rfl, rfl, trivial⟩ (H.sub (by repeat (first | exact Sub.nil | apply Sub.cons | exact Take.z | apply Take.s)))))
  · refine q_constB labelW H ?_; clear H; intro gC w H
    exact q_nil (r_next Hold.nil (K001 (gA, vA, gB, gC) _ _ ⟨rfl, rfl, rfl, rfl, rfl, rfl, trivial⟩ (H.sub (by repeat (first | exact Sub.nil | apply Sub.cons | exact Take.z | apply Take.s)))))
end Go.Proofs.Ytbdkicmdidcdcaa
