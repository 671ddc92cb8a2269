/-
  vers: what it is; between, client, Bytes. vers: what is alike; Hash, Next. vers: Next, Follows, May. vers: Follows, May. vers: Sign, Is, in both modes. law14.begun.
-/
import Derived.Test.YtamkekmaahnbcaaZL
import Derived.Test.YtamkekmaahnbcaaZQ
import Derived.Test.YtamkekmaahnbcaaZJ
import Derived.Test.YtamkekmaahnbcaaZI
import Derived.Test.YtamkekmaahnbcaaZM
import Derived.Test.YtamkekmaahnbcaaZN
namespace Go.Proofs.Ytamkekmaahnbcaa
open Go.RowKit

structure I4 where
  (a b c d : Int)
structure V where
  (client n count : Int) (prev root : B32) (epoch : Int) (vec : I4) (tag : B32)
abbrev i64s (l : List Int) : List Value := l.map (Value.int .i64)
abbrev V.ss (v : V) : List (List Value) := [[.int .i64 v.client], [.int .i64 v.n], [.int .i64 v.count], bs v.prev.l, bs v.root.l, [.int .i64 v.epoch], [.int .i64 v.vec.a, .int .i64 v.vec.b, .int .i64 v.vec.c, .int .i64 v.vec.d], bs v.tag.l]
abbrev V.val (v : V) : Value := .agg (cat v.ss).toArray
def In64 (n : Int) : Prop := -9223372036854775808 ≤ n ∧ n ≤ 9223372036854775807
structure V.In (v : V) : Prop where
  client : In64 v.client
  n : In64 v.n
  count : In64 v.count
  epoch : In64 v.epoch
  a : In64 v.vec.a
  b : In64 v.vec.b
  c : In64 v.vec.c
  d : In64 v.vec.d
def vbytes (v : V) : List UInt8 :=
  putN v.client ++ putN v.n ++ putN v.count ++ v.prev.l ++ v.root.l ++ putN v.epoch ++ putN v.vec.a ++ putN v.vec.b ++ putN v.vec.c ++ putN v.vec.d
theorem vbytes_length (v : V) : (vbytes v).length ≤ 200 := by
  have := putN_length v.client; have := putN_length v.n; have := putN_length v.count; have := putN_length v.epoch
  have := putN_length v.vec.a; have := putN_length v.vec.b; have := putN_length v.vec.c; have := putN_length v.vec.d
  have := v.prev.len; have := v.root.len
  unfold vbytes
  simp only [List.length_append]
  omega
/-- A field that is bytes, as a slice. -/
theorem St.rbP {S : Nat → Prop} {w0 w : World} {L M : List Res} {g off k i : Nat} {l : List UInt8} {ss : List (List Value)} {ns : List Nat} {tt : TypeId} {fz : Nat × Nat} (H : St S w0 L w) (t : Take L (.pt g (.cells (cat ss).toArray tt fz)) M) (p : PartAt ns off k i) (hs : ss[i]? = some (bs l)) (hk : k ≤ 1000000) [hn : SegsOf ss ns] : RB w (.slice (some ⟨g, off, none⟩) k k) l := by
  obtain ⟨h1, h2, h3⟩ := cat_part hn.out p hs
  rw [bs_length] at h2
  subst h2
  refine ⟨by rw [bs_length]; omega, bs_one, .inr ⟨g, off, _, _, _, _, rfl, H.blk t, ?_, Nat.le_refl _, by unfold maxLen; omega⟩⟩
  rw [Nat.mul_one]
  exact h1
set_option maxRecDepth 100000 in
theorem between_any (n a b : Int) (w : World) :
    Calls Try.prog 49 #[.int .i64 n, .int .i64 a, .int .i64 b] w fun e w' => e = .returned (.bool (decide (a ≤ n ∧ n ≤ b))) ∧ No w w' := by
  have H := St.nil (fun _ => False) w
  refine q_enter Try.func49 rfl rfl ?_
  by_cases h1 : a ≤ n
  · by_cases h2 : n ≤ b
    · refine go_W H ?_; clear H; intro w H
      exact ret1 rfl rv_tmp ⟨by simp [h1, h2], H.fr⟩
    · refine go_W H ?_; clear H; intro w H
      exact ret1 rfl rv_tmp ⟨by simp [h2], H.fr⟩
  · refine go_W H ?_; clear H; intro w H
    exact ret1 rfl rv_tmp ⟨by simp [h1], H.fr⟩
set_option maxRecDepth 100000 in
theorem client_any (n : Int) (w : World) :
    Calls Try.prog 48 #[.int .i64 n] w fun e w' => e = .returned (.bool (decide (1 ≤ n ∧ n ≤ 4))) ∧ No w w' := by
  have H := St.nil (fun _ => False) w
  refine q_enter Try.func48 rfl rfl ?_
  refine go_W H ?_; clear H; intro w H
  refine q_call (between_any n 1 4 _) ?_; rintro _ w1 ⟨rfl, hNo⟩; replace H := H.no hNo; clear hNo; refine ⟨_, rfl, ?_⟩
  refine go_W H ?_; clear H; intro w H
  exact ret1 rfl rv_tmp ⟨rfl, H.fr⟩
set_option maxRecDepth 100000 in
set_option maxHeartbeats 1000000 in
theorem Bytes_any (v : V) (w : World) (h : v.In) : Tri Try.prog 50 [v.val] [] w fun u L => L = [bsl u (vbytes v)] := by
  refine Tri.pure fun H => ?_
  have p1 := putN_length v.client; have p2 := putN_length v.n; have p3 := putN_length v.count; have p4 := putN_length v.epoch
  have p5 := putN_length v.vec.a; have p6 := putN_length v.vec.b; have p7 := putN_length v.vec.c
  have q1 := v.prev.len; have q2 := v.root.len
  refine q_enter Try.func50 rfl rfl ?_
  refine go_R H ?_; clear H; intro w H
  refine q_box H ?_; clear H; intro g w H
  refine go_R H ?_; clear H; intro w H
  replace H := H.drew
  refine r_start (Hold [(g, .cells (cat v.ss).toArray 55 (0, 0))]) 10 rfl holdS ?_
  refine r_takeR 0 ?_; refine r_takeR 3 ?_; refine r_takeR 6 ?_; refine r_takeR 1 ?_; refine r_takeR 4 ?_; refine r_takeR 7 ?_
  refine r_op 2 rfl ?_
  replace H := H.nilB
  refine q_tri H (Put_tri v.client (.slice none 0 0) [] _ h.client.1 h.client.2 (by simp)) ?_; clear H; rintro v1 _ w rfl H
  refine q_nil ?_; refine r_nextS ?_
  refine r_op 5 rfl ?_
  refine q_tri H (Put_tri v.n v1 ([] ++ putN v.client) _ h.n.1 h.n.2 (by simp only [List.length_append, List.length_nil]; omega)) ?_; clear H; rintro v2 _ w rfl H
  refine q_nil ?_; refine r_nextS ?_
  refine r_op 8 rfl ?_
  refine q_tri H (Put_tri v.count v2 ([] ++ putN v.client ++ putN v.n) _ h.count.1 h.count.2 (by simp only [List.length_append, List.length_nil]; omega)) ?_; clear H; rintro v3 _ w rfl H
  refine q_nil ?_; refine r_nextS ?_
  refine r_takeR 9 ?_
  refine r_done ?_
  refine go_R H ?_; clear H; intro w H
  rw [List.nil_append] at H
  have l3 : (putN v.client ++ putN v.n ++ putN v.count).length ≤ 60 := by simp only [List.length_append]; omega
  generalize h3 : putN v.client ++ putN v.n ++ putN v.count = b3 at *
  replace H := H.drew
  refine r_start (Hold [(g, .cells (cat v.ss).toArray 55 (0, 0))]) 8 rfl holdS ?_
  refine r_takeR 0 ?_; refine r_takeR 1 ?_; refine r_takeR 4 ?_; refine r_takeR 2 ?_; refine r_takeR 5 ?_
  refine r_op 3 rfl ?_
  refine q_appR H (H.rbP (g := g) (off := 3) (k := 32) (i := 3) (by (repeat (first | exact Take.z | apply Take.s)); done) ⟨rfl, rfl⟩ rfl (by omega)) ?_; clear H; intro v4 w H _
  refine q_nil ?_; refine r_nextS ?_
  refine r_op 6 rfl ?_
  refine q_appR H (H.rbP (g := g) (off := 35) (k := 32) (i := 4) (by (repeat (first | exact Take.z | apply Take.s)); done) ⟨rfl, rfl⟩ rfl (by omega)) ?_; clear H; intro v5 w H _
  refine q_nil ?_; refine r_nextS ?_
  refine r_takeR 7 ?_
  refine r_done ?_
  refine go_R H ?_; clear H; intro w H
  have l5 : (b3 ++ v.prev.l ++ v.root.l).length ≤ 130 := by simp only [List.length_append]; omega
  generalize h5 : b3 ++ v.prev.l ++ v.root.l = b5 at *
  refine q_tri H (Put_tri v.epoch v5 b5 _ h.epoch.1 h.epoch.2 (by omega)) ?_; clear H; rintro v6 _ w rfl H
  refine go_R H ?_; clear H; intro w H
  refine q_rounds 5 ?_
  refine go_R H ?_; clear H; intro w H
  refine q_tri H (Put_tri v.vec.a v6 (b5 ++ putN v.epoch) _ h.a.1 h.a.2 (by simp only [List.length_append]; omega)) ?_; clear H; rintro v7 _ w rfl H
  refine go_R H ?_; clear H; intro w H
  refine q_tri H (Put_tri v.vec.b v7 (b5 ++ putN v.epoch ++ putN v.vec.a) _ h.b.1 h.b.2 (by simp only [List.length_append]; omega)) ?_; clear H; rintro v8 _ w rfl H
  refine go_R H ?_; clear H; intro w H
  refine q_tri H (Put_tri v.vec.c v8 (b5 ++ putN v.epoch ++ putN v.vec.a ++ putN v.vec.b) _ h.c.1 h.c.2 (by simp only [List.length_append]; omega)) ?_; clear H; rintro v9 _ w rfl H
  refine go_R H ?_; clear H; intro w H
  refine q_tri H (Put_tri v.vec.d v9 (b5 ++ putN v.epoch ++ putN v.vec.a ++ putN v.vec.b ++ putN v.vec.c) _ h.d.1 h.d.2 (by simp only [List.length_append]; omega)) ?_; clear H; rintro va _ w rfl H
  refine go_R H ?_; clear H; intro w H
  refine ret1 rfl rv_tmp ⟨_, _, rfl, rfl, ?_⟩
  unfold vbytes
  rw [h3, h5]
  exact H.sub (by repeat (first | exact Sub.nil | apply Sub.cons | exact Take.z | apply Take.s))
end Go.Proofs.Ytamkekmaahnbcaa
namespace Go.Proofs.Ytamkekmaahnbcaa
open Go.RowKit

def V.zero : V := ⟨0, 0, 0, B32.zero, B32.zero, 0, ⟨0, 0, 0, 0⟩, B32.zero⟩
theorem V.zero_in : V.zero.In := by constructor <;> (unfold In64 V.zero; dsimp only; omega)
theorem agg_cat {ss ss' : List (List Value)} (h : Value.agg (cat ss).toArray = .agg (cat ss').toArray) : cat ss = cat ss' := agg_inj h
theorem V.val_inj {v u : V} (h : v.val = u.val) : v = u := by
  have hc := agg_cat h
  have get : ∀ i s s' off k, v.ss[i]? = some s → u.ss[i]? = some s' → PartAt [1, 1, 1, 32, 32, 1, 4, 32] off k i → s = s' := fun i s s' off k h1 h2 p => by
    have a := (cat_part (ss := v.ss) (ns := [1, 1, 1, 32, 32, 1, 4, 32]) SegsOf.out p h1).1
    have b := (cat_part (ss := u.ss) (ns := [1, 1, 1, 32, 32, 1, 4, 32]) SegsOf.out p h2).1
    rw [hc] at a
    exact a.symm.trans b
  have e0 := get 0 _ _ 0 1 rfl rfl ⟨rfl, rfl⟩
  have e1 := get 1 _ _ 1 1 rfl rfl ⟨rfl, rfl⟩
  have e2 := get 2 _ _ 2 1 rfl rfl ⟨rfl, rfl⟩
  have e3 := get 3 _ _ 3 32 rfl rfl ⟨rfl, rfl⟩
  have e4 := get 4 _ _ 35 32 rfl rfl ⟨rfl, rfl⟩
  have e5 := get 5 _ _ 67 1 rfl rfl ⟨rfl, rfl⟩
  have e6 := get 6 _ _ 68 4 rfl rfl ⟨rfl, rfl⟩
  have e7 := get 7 _ _ 72 32 rfl rfl ⟨rfl, rfl⟩
  obtain ⟨c, n, k, p, r, e, ⟨va, vb, vc, vd⟩, t⟩ := v
  obtain ⟨c', n', k', p', r', e', ⟨va', vb', vc', vd'⟩, t'⟩ := u
  simp only [List.cons.injEq, Value.int.injEq, true_and, and_true] at e0 e1 e2 e5 e6
  replace e3 := B32.ext' (bs_inj e3)
  replace e4 := B32.ext' (bs_inj e4)
  replace e7 := B32.ext' (bs_inj e7)
  obtain ⟨e6, e8, e9, ea⟩ := e6
  dsimp only at e3 e4 e7
  subst e0 e1 e2 e3 e4 e5 e6 e7 e8 e9 ea
  rfl
section
variable {P : Program}
theorem kl_arr {t n e : Nat} [h : ArrOf P t n e 1] [ha : AggOf P t n] (D : Nat) (l : List Value) (hl : l.length = n) (hv : ∀ v ∈ l, KL P (D + 1) e [v]) : KL P (D + 2) t l := by
  obtain ⟨d, hu, _, hs⟩ := ha.out
  have hct : P.cellsOf t = n := by unfold Program.cellsOf; rw [hs]; rfl
  have hce : P.cellsOf e = 1 := by unfold Program.cellsOf; rw [h.size]; rfl
  obtain ⟨r, hr⟩ := MapFrom.mapM_some (f := fun i => P.keyLits (D + 1) e ((l.drop (i * P.cellsOf e)).take (P.cellsOf e))) (l := List.range n) fun i hi => by
    rw [hce, Nat.mul_one]
    have hi' : i < l.length := by rw [hl]; exact List.mem_range.1 hi
    have : (l.drop i).take 1 = [l[i]] := by
      rw [List.drop_eq_getElem_cons hi', List.take_succ_cons, List.take_zero]
    rw [this]
    exact hv _ (List.getElem_mem _)
  refine ⟨r.flatten, ?_⟩
  show P.keyLits (D + 1 + 1) t l = _
  rw [keyLits_array h.und, hl, hct, if_pos rfl, hr]; rfl
end
theorem V.kv (v : V) (h : v.In) : Kv Try.prog 55 v.val := by
  refine Kv_rec v.ss _ rfl (fun D => ?_) rfl
  refine ⟨kl_i64 _ _ h.client.1 h.client.2, rfl, kl_i64 _ _ h.n.1 h.n.2, rfl, kl_i64 _ _ h.count.1 h.count.2, rfl, kl_bytes (D + 3) _ v.prev.len, (partLen _ _).trans (partLen _ _).symm, kl_bytes (D + 3) _ v.root.len, (partLen _ _).trans (partLen _ _).symm, kl_i64 _ _ h.epoch.1 h.epoch.2, rfl, kl_arr (D + 3) _ rfl ?_, rfl, kl_bytes (D + 3) _ v.tag.len, (partLen _ _).trans (partLen _ _).symm, trivial⟩
  intro x hx
  simp only [List.mem_cons, List.not_mem_nil, or_false] at hx
  rcases hx with rfl | rfl | rfl | rfl
  · exact kl_i64 _ _ h.a.1 h.a.2
  · exact kl_i64 _ _ h.b.1 h.b.2
  · exact kl_i64 _ _ h.c.1 h.c.2
  · exact kl_i64 _ _ h.d.1 h.d.2
open Classical in
noncomputable def vhash (v : V) : B32 := if v = V.zero then B32.zero else ⟨sha (vbytes v ++ v.tag.l), sha_length _⟩
theorem vhash_zero : vhash V.zero = B32.zero := if_pos rfl
theorem vhash_else {v : V} (h : v ≠ V.zero) : (vhash v).l = sha (vbytes v ++ v.tag.l) := by unfold vhash; rw [if_neg h]

set_option maxRecDepth 100000 in
set_option maxHeartbeats 1000000 in
theorem Hash_any (v : V) (w : World) (h : v.In) : Calls Try.prog 47 #[v.val] w fun e w' => e = .returned (.agg (bs (vhash v).l).toArray) ∧ No w w' := by
  have H := St.nil (fun _ => False) w
  refine q_enter Try.func47 rfl rfl ?_
  refine go_R H ?_; clear H; intro w H
  refine q_box H ?_; clear H; intro g w H
  refine go_R H ?_; clear H; intro w H
  refine q_alloc H ?_; clear H; intro gr w H
  refine go_R H ?_; clear H; intro w H
  refine q_buildR V.zero.ss ?_
  refine go_R H ?_; clear H; intro w H
  by_cases hz : v = V.zero
  · refine q_weq_t (v.kv h) (V.zero.kv V.zero_in) (by rw [hz]) ?_
    refine go_R H ?_; clear H; intro w H
    refine q_buildB0 ?_
    refine go_R H ?_; clear H; intro w H
    refine ret1 rfl (rv_agg H) ⟨?_, H.fr⟩
    rw [hz, vhash_zero]; rfl
  · refine q_weq_f (v.kv h) (V.zero.kv V.zero_in) (fun e => hz (V.val_inj e)) ?_
    refine go_R H ?_; clear H; intro w H
    replace H := H.drew
    refine r_start (Hold [(g, .cells (cat v.ss).toArray 55 (0, 0))]) 7 rfl holdS ?_
    refine r_takeR 0 ?_; refine r_takeR 2 ?_; refine r_takeR 3 ?_
    refine r_op 1 rfl ?_
    refine q_tri H (Bytes_any v _ h) ?_; clear H; rintro v1 _ w rfl H
    have hbl := vbytes_length v
    have htl := v.tag.len
    obtain ⟨a1, c1, rfl⟩ := RB.val (H.rbB (v := v1) (by (repeat (first | exact Take.z | apply Take.s)); done))
    refine q_nil ?_; refine r_nextS ?_
    refine r_op 4 rfl ?_
    refine q_side2 H ?_; clear H; intro g2 w H
    refine q_nil ?_; refine r_nextS ?_
    refine r_op 5 rfl ?_
    have SS : ∀ w, RBs w (.slice (some ⟨g2, 0, none⟩) 2 2) [vbytes v, v.tag.l] → Calls Try.prog 55 #[.slice (some ⟨g2, 0, none⟩) 2 2] w fun e w' => e = .returned (.agg (bs (vhash v).l).toArray) ∧ No w w' := fun w h => by
      rw [vhash_else hz]
      exact shaSum_is _ [vbytes v, v.tag.l] (vbytes v ++ v.tag.l) w h (by simp) (by simp only [List.length_append]; omega)
    refine q_call (SS _ (RBs.blk2 (H.blk (g := g2) (by (repeat (first | exact Take.z | apply Take.s)); done)) (H.rbB (by (repeat (first | exact Take.z | apply Take.s)); done)) (H.rbP (g := g) (off := 72) (k := 32) (i := 7) (by (repeat (first | exact Take.z | apply Take.s)); done) ⟨rfl, rfl⟩ rfl (by omega)))) ?_; rintro _ w1 ⟨rfl, hNo⟩; replace H := H.no hNo; clear hNo; refine ⟨_, rfl, ?_⟩
    refine q_nil ?_; refine r_nextS ?_
    refine r_op 6 rfl ?_
    refine q_storeW (g := gr) (cs := bs (vhash v).l) H ?_ (hk := by rw [bs_length, (vhash v).len]); clear H; intro w H
    refine q_nil ?_; refine r_nextS ?_
    refine r_done ?_
    refine go_R H ?_; clear H; intro w H
    exact ret1 rfl (rv_agg H (hl := by rw [bs_length, (vhash v).len])) ⟨rfl, H.fr⟩
end Go.Proofs.Ytamkekmaahnbcaa
namespace Go.Proofs.Ytamkekmaahnbcaa
open Go.RowKit

/-- An element of a part. -/
structure InAt (ns : List Nat) (off k i j : Nat) : Prop where
  off : (ns.take i).sum + j = off
  len : ns[i]? = some k
theorem InAt.part {ns : List Nat} {off k i j : Nat} (h : InAt ns off k i j) : PartAt ns (ns.take i).sum k i := ⟨rfl, h.len⟩
section
variable {P : Program} {n : Nat} {Q : Post} {ρ : Env} {w : World} {ops : Array Oper} {rest : List Oper} {d : Nat} {T : TypeId} {p : String} {af : Array Edge} {gd : Option (Nat × Bool)}
variable {S : Nat → Prop} {w0 : World} {L M : List Res}
theorem q_loadRI {t : Nat} {x : Operand} {g off k : Nat} (i j : Nat) {s : List Value} {v : Value} {ss : List (List Value)} {ns : List Nat} {tt : TypeId} {fz : Nat × Nat} [CellOf P t] (H : St S w0 L w) (h : LW P n ops Q rest (upd ρ d v) w) (hx : ev ρ x = .pointer (some ⟨g, off, none⟩) := by rfl)
    (ht : Take L (.pt g (.cells (cat ss).toArray tt fz)) M := by first | exact .z | exact .s .z | exact .s (.s .z) | exact .s (.s (.s .z)) | exact .s (.s (.s (.s .z))) | exact .s (.s (.s (.s (.s .z)))) | exact .s (.s (.s (.s (.s (.s .z))))) | exact .s (.s (.s (.s (.s (.s (.s .z)))))) | exact .s (.s (.s (.s (.s (.s (.s (.s .z))))))) | exact .s (.s (.s (.s (.s (.s (.s (.s (.s .z)))))))) | exact .s (.s (.s (.s (.s (.s (.s (.s (.s (.s .z))))))))) | exact .s (.s (.s (.s (.s (.s (.s (.s (.s (.s (.s .z)))))))))) | exact .s (.s (.s (.s (.s (.s (.s (.s (.s (.s (.s (.s .z))))))))))) | exact .s (.s (.s (.s (.s (.s (.s (.s (.s (.s (.s (.s (.s .z)))))))))))) | exact .s (.s (.s (.s (.s (.s (.s (.s (.s (.s (.s (.s (.s (.s .z))))))))))))) | exact .s (.s (.s (.s (.s (.s (.s (.s (.s (.s (.s (.s (.s (.s (.s .z)))))))))))))) | exact .s (.s (.s (.s (.s (.s (.s (.s (.s (.s (.s (.s (.s (.s (.s (.s .z))))))))))))))) | exact .s (.s (.s (.s (.s (.s (.s (.s (.s (.s (.s (.s (.s (.s (.s (.s (.s .z)))))))))))))))) | exact .s (.s (.s (.s (.s (.s (.s (.s (.s (.s (.s (.s (.s (.s (.s (.s (.s (.s .z))))))))))))))))) | exact .s (.s (.s (.s (.s (.s (.s (.s (.s (.s (.s (.s (.s (.s (.s (.s (.s (.s (.s .z)))))))))))))))))) | exact .s (.s (.s (.s (.s (.s (.s (.s (.s (.s (.s (.s (.s (.s (.s (.s (.s (.s (.s (.s .z))))))))))))))))))) | exact .s (.s (.s (.s (.s (.s (.s (.s (.s (.s (.s (.s (.s (.s (.s (.s (.s (.s (.s (.s (.s .z)))))))))))))))))))))
    (hn : SegsOf ss ns := by infer_instance) (hp : InAt ns off k i j := by exact ⟨rfl, rfl⟩) (hs : ss[i]? = some s := by rfl) (hv : s[j]? = some v := by rfl) (hd : Nat.blt d n = true := by rfl) (hw : Wanted ops ρ gd := by first | exact .none | exact .some ⟨_, rfl, rfl⟩) :
    LW P n ops Q (⟨some d, .load t x, T, p, af, gd⟩ :: rest) ρ w := q_loadC h (by rw [cell_of_row _ _ _ _ _ _ (H.blk ht), ← hp.off]; simpa using cat_in hn.out hp.part hs hv) hx hd hw
theorem q_storeRI {t : Nat} {x y : Operand} {g off k : Nat} (i j : Nat) {v : Value} {s s' : List Value} {ss ss' : List (List Value)} {ns : List Nat} {tt : TypeId} [CellOf P t] (H : St S w0 L w) (h : ∀ w', St S w0 (cells g (cat ss') tt :: M) w' → LW P n ops Q rest ρ w') (hx : ev ρ x = .pointer (some ⟨g, off, none⟩) := by rfl)
    (hy : ev ρ y = v := by conv => lhs; whnf)
    (ht : Take L (cells g (cat ss) tt) M := by first | exact .z | exact .s .z | exact .s (.s .z) | exact .s (.s (.s .z)) | exact .s (.s (.s (.s .z))) | exact .s (.s (.s (.s (.s .z)))) | exact .s (.s (.s (.s (.s (.s .z))))) | exact .s (.s (.s (.s (.s (.s (.s .z)))))) | exact .s (.s (.s (.s (.s (.s (.s (.s .z))))))) | exact .s (.s (.s (.s (.s (.s (.s (.s (.s .z)))))))) | exact .s (.s (.s (.s (.s (.s (.s (.s (.s (.s .z))))))))) | exact .s (.s (.s (.s (.s (.s (.s (.s (.s (.s (.s .z)))))))))) | exact .s (.s (.s (.s (.s (.s (.s (.s (.s (.s (.s (.s .z))))))))))) | exact .s (.s (.s (.s (.s (.s (.s (.s (.s (.s (.s (.s (.s .z)))))))))))) | exact .s (.s (.s (.s (.s (.s (.s (.s (.s (.s (.s (.s (.s (.s .z))))))))))))) | exact .s (.s (.s (.s (.s (.s (.s (.s (.s (.s (.s (.s (.s (.s (.s .z)))))))))))))) | exact .s (.s (.s (.s (.s (.s (.s (.s (.s (.s (.s (.s (.s (.s (.s (.s .z))))))))))))))) | exact .s (.s (.s (.s (.s (.s (.s (.s (.s (.s (.s (.s (.s (.s (.s (.s (.s .z)))))))))))))))) | exact .s (.s (.s (.s (.s (.s (.s (.s (.s (.s (.s (.s (.s (.s (.s (.s (.s (.s .z))))))))))))))))) | exact .s (.s (.s (.s (.s (.s (.s (.s (.s (.s (.s (.s (.s (.s (.s (.s (.s (.s (.s .z)))))))))))))))))) | exact .s (.s (.s (.s (.s (.s (.s (.s (.s (.s (.s (.s (.s (.s (.s (.s (.s (.s (.s (.s .z))))))))))))))))))) | exact .s (.s (.s (.s (.s (.s (.s (.s (.s (.s (.s (.s (.s (.s (.s (.s (.s (.s (.s (.s (.s .z)))))))))))))))))))))
    (hn : SegsOf ss ns := by infer_instance) (hp : InAt ns off k i j := by exact ⟨rfl, rfl⟩) (hu : ss[i]? = some s := by rfl) (hs' : SetL s j v s' := by repeat (first | exact SetL.z | apply SetL.s)) (hs : SetS ss i s' ss' := by repeat (first | exact SetS.z | apply SetS.s))
    (h1 : v.oneCell' = true := by rfl) (hc : v.cells = #[v] := by rfl) (hw : Wanted ops ρ gd := by first | exact .none | exact .some ⟨_, rfl, rfl⟩) :
    LW P n ops Q (⟨none, .store t x y, T, p, af, gd⟩ :: rest) ρ w := by
  obtain ⟨_, rfl⟩ := hs.eq
  obtain ⟨hj, rfl⟩ := hs'.eq
  obtain ⟨c1, c2, c3⟩ := cat_part hn.out hp.part hu
  have e : (cat ss).set off v = cat (ss.set i (s.take j ++ [v] ++ s.drop (j + 1))) := by
    have hf := cat_front hn.out i
    obtain ⟨hi, _⟩ := List.getElem?_eq_some_iff.1 hu
    have h2 : (ss.set i (s.take j ++ [v] ++ s.drop (j + 1)))[i]? = some (s.take j ++ [v] ++ s.drop (j + 1)) := by simp [hi]
    rw [cat_split h2, cat_split hu, List.take_set_of_le (Nat.le_refl _), List.drop_set_of_lt (Nat.lt_succ_self _), ← hp.off]
    rw [List.set_append_right _ _ (by omega), hf, Nat.add_sub_cancel_left, List.set_append_left _ _ hj]
    congr 2
    rw [List.set_eq_take_append_cons_drop, if_pos hj]
    simp
  exact q_store H h hx hy ht (SetL.of (by rw [← hp.off]; omega) e) h1 hc hw
end
def I4.get (v : I4) (i : Int) : Int := if i = 1 then v.a else if i = 2 then v.b else if i = 3 then v.c else v.d
def I4.bump (v : I4) (i : Int) : I4 := if i = 1 then { v with a := v.a + 1 } else if i = 2 then { v with b := v.b + 1 } else if i = 3 then { v with c := v.c + 1 } else { v with d := v.d + 1 }
noncomputable def vnext (last : V) (who : Int) : V :=
  { client := who, n := last.vec.get who + 1, count := last.count + 1, prev := vhash last, root := last.root, epoch := last.epoch, vec := last.vec.bump who, tag := B32.zero }
noncomputable def vnextT (last : V) (who : Int) : V := if 1 ≤ who ∧ who ≤ 4 then vnext last who else V.zero
/-- Small numbers: one more is no overflow. -/
structure V.Sm (v : V) : Prop where
  ok : v.In
  count : v.count < 9223372036854775807
  a : v.vec.a < 9223372036854775807
  b : v.vec.b < 9223372036854775807
  c : v.vec.c < 9223372036854775807
  d : v.vec.d < 9223372036854775807
set_option maxRecDepth 100000 in
theorem Next_bad (v : V) (who : Int) (w : World) (hw : ¬ (1 ≤ who ∧ who ≤ 4)) : Calls Try.prog 25 #[v.val, .int .i64 who] w fun e w' => e = .returned V.zero.val ∧ No w w' := by
  have H := St.nil (fun _ => False) w
  have C1 := fun w => client_any who w
  rw [decide_eq_false hw] at C1
  refine q_enter Try.func25 rfl rfl ?_
  refine go_R H ?_; clear H; intro w H
  refine q_box H ?_; clear H; intro g w H
  refine go_R H ?_; clear H; intro w H
  refine q_alloc H ?_; clear H; intro gr w H
  refine go_R H ?_; clear H; intro w H
  refine q_call (C1 _) ?_; rintro _ w1 ⟨rfl, hNo⟩; replace H := H.no hNo; clear hNo; refine ⟨_, rfl, ?_⟩
  refine go_R H ?_; clear H; intro w H
  refine q_buildR V.zero.ss ?_
  refine go_R H ?_; clear H; intro w H
  exact ret1 rfl (rv_cat H) ⟨rfl, H.fr⟩
set_option maxRecDepth 100000 in
set_option maxHeartbeats 2000000 in
theorem Next_good (v : V) (who : Int) (w : World) (hv : v.Sm) (hw : 1 ≤ who ∧ who ≤ 4) : Calls Try.prog 25 #[v.val, .int .i64 who] w fun e w' => e = .returned (vnext v who).val ∧ No w w' := by
  have H := St.nil (fun _ => False) w
  have C1 := fun w => client_any who w
  rw [decide_eq_true hw] at C1
  have b1 := hv.ok.count
  have b2 := hv.ok.a
  have b3 := hv.ok.b
  have b4 := hv.ok.c
  have b5 := hv.ok.d
  have c1 := hv.count
  have c2 := hv.a
  have c3 := hv.b
  have c4 := hv.c
  have c5 := hv.d
  unfold In64 at b1 b2 b3 b4 b5
  refine q_enter Try.func25 rfl rfl ?_
  refine go_R H ?_; clear H; intro w H
  refine q_box H ?_; clear H; intro g w H
  refine go_R H ?_; clear H; intro w H
  refine q_alloc H ?_; clear H; intro gr w H
  refine go_R H ?_; clear H; intro w H
  refine q_call (C1 _) ?_; rintro _ w1 ⟨rfl, hNo⟩; replace H := H.no hNo; clear hNo; refine ⟨_, rfl, ?_⟩
  refine go_R H ?_; clear H; intro w H
  replace H := H.drew
  refine r_start (Hold [(g, .cells (cat v.ss).toArray 55 (0, 0))]) 15 rfl holdS ?_
  refine r_takeR 0 ?_; refine r_takeR 1 ?_; refine r_takeR 4 ?_; refine r_takeR 6 ?_; refine r_takeR 8 ?_; refine r_takeR 10 ?_; refine r_takeR 2 ?_; refine r_takeR 7 ?_; refine r_takeR 9 ?_; refine r_takeR 11 ?_; refine r_takeR 3 ?_
  refine r_two 5 13 rfl rfl ?_ ?_
  · refine q_call (Hash_any v _ hv.ok) ?_; rintro _ w1 ⟨rfl, hNo⟩; replace H := H.no hNo; clear hNo; refine ⟨_, rfl, ?_⟩
    refine q_nil ?_; refine r_nextS ?_
    refine r_take 12 rfl rfl (fun w hS => x_buildR [[.int .i64 who], [.int .i64 0], [.int .i64 (v.count + 1)], bs (vhash v).l, bs v.root.l, [.int .i64 v.epoch], [.int .i64 v.vec.a, .int .i64 v.vec.b, .int .i64 v.vec.c, .int .i64 v.vec.d], bs B32.zero.l]) ?_
    refine r_op 13 rfl ?_
    refine q_alloc H ?_; clear H; intro g5 w H
    refine q_nil ?_; refine r_nextS ?_
    refine r_op 14 rfl ?_
    refine q_storeRW (g := g5) H ?_; clear H; intro w H
    refine q_nil ?_; refine r_nextS ?_
    refine r_done ?_
    refine go_R H ?_; clear H; intro w H
    obtain rfl | rfl | rfl | rfl : who = 1 ∨ who = 2 ∨ who = 3 ∨ who = 4 := by omega
    all_goals
      refine go_R H ?_; clear H; intro w H
      first
        | (refine q_loadRI 6 0 H ?_; refine go_R H ?_; clear H; intro w H; refine q_storeRI 6 0 H ?_; clear H; intro w H; refine go_R H ?_; clear H; intro w H; refine q_loadRI 6 0 H ?_)
        | (refine q_loadRI 6 1 H ?_; refine go_R H ?_; clear H; intro w H; refine q_storeRI 6 1 H ?_; clear H; intro w H; refine go_R H ?_; clear H; intro w H; refine q_loadRI 6 1 H ?_)
        | (refine q_loadRI 6 2 H ?_; refine go_R H ?_; clear H; intro w H; refine q_storeRI 6 2 H ?_; clear H; intro w H; refine go_R H ?_; clear H; intro w H; refine q_loadRI 6 2 H ?_)
        | (refine q_loadRI 6 3 H ?_; refine go_R H ?_; clear H; intro w H; refine q_storeRI 6 3 H ?_; clear H; intro w H; refine go_R H ?_; clear H; intro w H; refine q_loadRI 6 3 H ?_)
      refine go_R H ?_; clear H; intro w H
      exact ret1 rfl (rv_cat H) ⟨rfl, H.fr⟩
  · refine q_alloc H ?_; clear H; intro g5 w H
    refine q_nil ?_; refine r_nextS ?_
    refine r_op 5 rfl ?_
    refine q_call (Hash_any v _ hv.ok) ?_; rintro _ w1 ⟨rfl, hNo⟩; replace H := H.no hNo; clear hNo; refine ⟨_, rfl, ?_⟩
    refine q_nil ?_; refine r_nextS ?_
    refine r_take 12 rfl rfl (fun w hS => x_buildR [[.int .i64 who], [.int .i64 0], [.int .i64 (v.count + 1)], bs (vhash v).l, bs v.root.l, [.int .i64 v.epoch], [.int .i64 v.vec.a, .int .i64 v.vec.b, .int .i64 v.vec.c, .int .i64 v.vec.d], bs B32.zero.l]) ?_
    refine r_op 14 rfl ?_
    refine q_storeRW (g := g5) H ?_; clear H; intro w H
    refine q_nil ?_; refine r_nextS ?_
    refine r_done ?_
    refine go_R H ?_; clear H; intro w H
    obtain rfl | rfl | rfl | rfl : who = 1 ∨ who = 2 ∨ who = 3 ∨ who = 4 := by omega
    all_goals
      refine go_R H ?_; clear H; intro w H
      first
        | (refine q_loadRI 6 0 H ?_; refine go_R H ?_; clear H; intro w H; refine q_storeRI 6 0 H ?_; clear H; intro w H; refine go_R H ?_; clear H; intro w H; refine q_loadRI 6 0 H ?_)
        | (refine q_loadRI 6 1 H ?_; refine go_R H ?_; clear H; intro w H; refine q_storeRI 6 1 H ?_; clear H; intro w H; refine go_R H ?_; clear H; intro w H; refine q_loadRI 6 1 H ?_)
        | (refine q_loadRI 6 2 H ?_; refine go_R H ?_; clear H; intro w H; refine q_storeRI 6 2 H ?_; clear H; intro w H; refine go_R H ?_; clear H; intro w H; refine q_loadRI 6 2 H ?_)
        | (refine q_loadRI 6 3 H ?_; refine go_R H ?_; clear H; intro w H; refine q_storeRI 6 3 H ?_; clear H; intro w H; refine go_R H ?_; clear H; intro w H; refine q_loadRI 6 3 H ?_)
      refine go_R H ?_; clear H; intro w H
      exact ret1 rfl (rv_cat H) ⟨rfl, H.fr⟩
end Go.Proofs.Ytamkekmaahnbcaa
namespace Go.Proofs.Ytamkekmaahnbcaa
open Go.RowKit

theorem VNext_any (v : V) (who : Int) (w : World) (hv : v.Sm) : Calls Try.prog 25 #[v.val, .int .i64 who] w fun e w' => e = .returned (vnextT v who).val ∧ No w w' := by
  unfold vnextT
  by_cases h : 1 ≤ who ∧ who ≤ 4
  · rw [if_pos h]; exact Next_good v who w hv h
  · rw [if_neg h]; exact Next_bad v who w h
theorem I4.get_in {v : I4} (a : In64 (v.a + 1)) (b : In64 (v.b + 1)) (c : In64 (v.c + 1)) (d : In64 (v.d + 1)) (i : Int) : In64 (v.get i + 1) := by
  unfold I4.get
  split
  · exact a
  · split
    · exact b
    · split
      · exact c
      · exact d
theorem vnextT_in {v : V} (h : v.Sm) (who : Int) : (vnextT v who).In := by
  unfold vnextT
  split
  · rename_i hw
    have b1 := h.ok.count
    have b2 := h.ok.a
    have b3 := h.ok.b
    have b4 := h.ok.c
    have b5 := h.ok.d
    have b6 := h.ok.epoch
    have c1 := h.count
    have c2 := h.a
    have c3 := h.b
    have c4 := h.c
    have c5 := h.d
    unfold In64 at *
    refine ⟨?_, ?_, ?_, b6, ?_, ?_, ?_, ?_⟩
    · show In64 who
      unfold In64; omega
    · exact I4.get_in (by unfold In64; omega) (by unfold In64; omega) (by unfold In64; omega) (by unfold In64; omega) who
    · show In64 (v.count + 1)
      unfold In64; omega
    all_goals
      show In64 (_ : Int)
      simp only [vnext, I4.bump]
      unfold In64
      repeat (first | omega | (dsimp only; omega) | split)
  · exact V.zero_in
def vfollows' (x v : V) : Prop := x.client ≠ 0 ∧ ¬ v.epoch < x.epoch ∧ ¬ (v.epoch > x.epoch ∧ v.epoch - 1 > x.epoch) ∧ v = { x with root := v.root, epoch := v.epoch, tag := v.tag }
def vfollows (last v : V) : Prop := vfollows' (vnextT last v.client) v
set_option maxRecDepth 100000 in
set_option maxHeartbeats 2000000 in
theorem Follows_any (last v : V) (w : World) (hl : last.Sm) (hv : v.In) : Calls Try.prog 26 #[last.val, v.val] w fun e w' => ∃ r : Bool, e = .returned (.bool r) ∧ (r = true ↔ vfollows last v) ∧ No w w' := by
  have H := St.nil (fun _ => False) w
  have NX := fun w => VNext_any last v.client w hl
  have hx := vnextT_in hl v.client
  unfold vfollows
  generalize vnextT last v.client = x at *
  have e1 := hx.epoch
  have e2 := hv.epoch
  unfold In64 at e1 e2
  refine q_enter Try.func26 rfl rfl ?_
  refine go_R H ?_; clear H; intro w H
  refine q_box H ?_; clear H; intro gl w H
  refine go_R H ?_; clear H; intro w H
  refine q_box H ?_; clear H; intro gv w H
  refine go_R H ?_; clear H; intro w H
  refine q_call (NX _) ?_; rintro _ w1 ⟨rfl, hNo⟩; replace H := H.no hNo; clear hNo; refine ⟨_, rfl, ?_⟩
  refine go_R H ?_; clear H; intro w H
  refine q_alloc H ?_; clear H; intro gx w H
  refine go_R H ?_; clear H; intro w H
  by_cases h0 : x.client = 0
  · refine go_R H ?_; clear H; intro w H
    exact ret1 rfl rv_tmp ⟨_, rfl, by simp [vfollows', h0], H.fr⟩
  by_cases h1 : v.epoch < x.epoch
  · refine go_R H ?_; clear H; intro w H
    exact ret1 rfl rv_tmp ⟨_, rfl, by simp [vfollows', h1], H.fr⟩
  by_cases h2 : v.epoch > x.epoch
  · by_cases h3 : v.epoch - 1 > x.epoch
    · refine go_R H ?_; clear H; intro w H
      exact ret1 rfl rv_tmp ⟨_, rfl, by simp only [vfollows', Bool.false_eq_true, false_iff]; intro h; exact h.2.2.1 ⟨h2, h3⟩, H.fr⟩
    · refine go_R H ?_; clear H; intro w H
      replace H := H.drew
      refine r_start (Hold [(gv, .cells (cat v.ss).toArray 55 (0, 0))]) 12 rfl holdS ?_
      refine r_takeR 0 ?_; refine r_takeR 2 ?_; refine r_takeR 4 ?_; refine r_takeR 1 ?_; refine r_takeR 3 ?_; refine r_takeR 5 ?_; refine r_takeR 6 ?_
      refine r_op 7 rfl ?_
      refine q_storeR (g := gx) H ?_; clear H; intro w H
      refine q_nil ?_; refine r_nextS ?_
      refine r_takeR 8 ?_
      refine r_op 9 rfl ?_
      refine q_storeR (g := gx) H ?_; clear H; intro w H
      refine q_nil ?_; refine r_nextS ?_
      refine r_takeR 10 ?_
      refine r_op 11 rfl ?_
      refine q_storeRC (g := gx) H ?_; clear H; intro w H
      refine q_nil ?_; refine r_nextS ?_
      refine r_done ?_
      refine go_R H ?_; clear H; intro w H
      have hx' : ({ x with root := v.root, epoch := v.epoch, tag := v.tag } : V).In := ⟨hx.client, hx.n, hx.count, hv.epoch, hx.a, hx.b, hx.c, hx.d⟩
      by_cases he : v = { x with root := v.root, epoch := v.epoch, tag := v.tag }
      · refine q_weq_t (v.kv hv) (V.kv _ hx') (congrArg V.val he) ?_
        refine go_R H ?_; clear H; intro w H
        exact ret1 rfl rv_tmp ⟨true, rfl, ⟨fun _ => ⟨h0, h1, fun h => h3 h.2, he⟩, fun _ => rfl⟩, H.fr⟩
      · refine q_weq_f (v.kv hv) (V.kv _ hx') (fun e => he (V.val_inj e)) ?_
        refine go_R H ?_; clear H; intro w H
        exact ret1 rfl rv_tmp ⟨false, rfl, ⟨nofun, fun h => (he h.2.2.2).elim⟩, H.fr⟩
  · refine go_R H ?_; clear H; intro w H
    replace H := H.drew
    refine r_start (Hold [(gv, .cells (cat v.ss).toArray 55 (0, 0))]) 12 rfl holdS ?_
    refine r_takeR 0 ?_; refine r_takeR 2 ?_; refine r_takeR 4 ?_; refine r_takeR 1 ?_; refine r_takeR 3 ?_; refine r_takeR 5 ?_; refine r_takeR 6 ?_
    refine r_op 7 rfl ?_
    refine q_storeR (g := gx) H ?_; clear H; intro w H
    refine q_nil ?_; refine r_nextS ?_
    refine r_takeR 8 ?_
    refine r_op 9 rfl ?_
    refine q_storeR (g := gx) H ?_; clear H; intro w H
    refine q_nil ?_; refine r_nextS ?_
    refine r_takeR 10 ?_
    refine r_op 11 rfl ?_
    refine q_storeRC (g := gx) H ?_; clear H; intro w H
    refine q_nil ?_; refine r_nextS ?_
    refine r_done ?_
    refine go_R H ?_; clear H; intro w H
    have hx' : ({ x with root := v.root, epoch := v.epoch, tag := v.tag } : V).In := ⟨hx.client, hx.n, hx.count, hv.epoch, hx.a, hx.b, hx.c, hx.d⟩
    by_cases he : v = { x with root := v.root, epoch := v.epoch, tag := v.tag }
    · refine q_weq_t (v.kv hv) (V.kv _ hx') (congrArg V.val he) ?_
      refine go_R H ?_; clear H; intro w H
      exact ret1 rfl rv_tmp ⟨true, rfl, ⟨fun _ => ⟨h0, h1, fun h => h2 h.1, he⟩, fun _ => rfl⟩, H.fr⟩
    · refine q_weq_f (v.kv hv) (V.kv _ hx') (fun e => he (V.val_inj e)) ?_
      refine go_R H ?_; clear H; intro w H
      exact ret1 rfl rv_tmp ⟨false, rfl, ⟨nofun, fun h => (he h.2.2.2).elim⟩, H.fr⟩
theorem between_t {n a b : Int} (h : a ≤ n ∧ n ≤ b) (w : World) : Calls Try.prog 49 #[.int .i64 n, .int .i64 a, .int .i64 b] w fun e w' => e = .returned (.bool true) ∧ No w w' := by
  have := between_any n a b w
  rwa [decide_eq_true h] at this
theorem between_f {n a b : Int} (h : ¬ (a ≤ n ∧ n ≤ b)) (w : World) : Calls Try.prog 49 #[.int .i64 n, .int .i64 a, .int .i64 b] w fun e w' => e = .returned (.bool false) ∧ No w w' := by
  have := between_any n a b w
  rwa [decide_eq_false h] at this
theorem client_t {n : Int} (h : 1 ≤ n ∧ n ≤ 4) (w : World) : Calls Try.prog 48 #[.int .i64 n] w fun e w' => e = .returned (.bool true) ∧ No w w' := by
  have := client_any n w
  rwa [decide_eq_true h] at this
theorem client_f {n : Int} (h : ¬ (1 ≤ n ∧ n ≤ 4)) (w : World) : Calls Try.prog 48 #[.int .i64 n] w fun e w' => e = .returned (.bool false) ∧ No w w' := by
  have := client_any n w
  rwa [decide_eq_false h] at this
structure vmay (v : V) : Prop where
  a : 0 ≤ v.vec.a ∧ v.vec.a ≤ 150
  b : 0 ≤ v.vec.b ∧ v.vec.b ≤ 150
  c : 0 ≤ v.vec.c ∧ v.vec.c ≤ 150
  d : 0 ≤ v.vec.d ∧ v.vec.d ≤ 150
  client : 1 ≤ v.client ∧ v.client ≤ 4
  n : 1 ≤ v.n ∧ v.n ≤ 150
  count : 1 ≤ v.count ∧ v.count ≤ 150
  epoch : 0 ≤ v.epoch ∧ v.epoch ≤ 150
set_option maxRecDepth 100000 in
set_option maxHeartbeats 2000000 in
theorem May_any (v : V) (w : World) : Calls Try.prog 27 #[v.val] w fun e w' => ∃ r : Bool, e = .returned (.bool r) ∧ (r = true ↔ vmay v) ∧ No w w' := by
  have H := St.nil (fun _ => False) w
  refine q_enter Try.func27 rfl rfl ?_
  refine go_R H ?_; clear H; intro w H
  refine q_box H ?_; clear H; intro gv w H
  refine go_R H ?_; clear H; intro w H
  refine q_rounds 5 ?_
  refine go_R H ?_; clear H; intro w H
  by_cases ha : 0 ≤ v.vec.a ∧ v.vec.a ≤ 150
  rotate_left
  · refine q_call (between_f ha _) ?_; rintro _ w1 ⟨rfl, hNo⟩; replace H := H.no hNo; clear hNo; refine ⟨_, rfl, ?_⟩
    refine go_R H ?_; clear H; intro w H
    exact ret1 rfl rv_tmp ⟨false, rfl, ⟨nofun, fun h => (ha h.a).elim⟩, H.fr⟩
  refine q_call (between_t ha _) ?_; rintro _ w1 ⟨rfl, hNo⟩; replace H := H.no hNo; clear hNo; refine ⟨_, rfl, ?_⟩
  refine go_R H ?_; clear H; intro w H
  by_cases hb : 0 ≤ v.vec.b ∧ v.vec.b ≤ 150
  rotate_left
  · refine q_call (between_f hb _) ?_; rintro _ w1 ⟨rfl, hNo⟩; replace H := H.no hNo; clear hNo; refine ⟨_, rfl, ?_⟩
    refine go_R H ?_; clear H; intro w H
    exact ret1 rfl rv_tmp ⟨false, rfl, ⟨nofun, fun h => (hb h.b).elim⟩, H.fr⟩
  refine q_call (between_t hb _) ?_; rintro _ w1 ⟨rfl, hNo⟩; replace H := H.no hNo; clear hNo; refine ⟨_, rfl, ?_⟩
  refine go_R H ?_; clear H; intro w H
  by_cases hc : 0 ≤ v.vec.c ∧ v.vec.c ≤ 150
  rotate_left
  · refine q_call (between_f hc _) ?_; rintro _ w1 ⟨rfl, hNo⟩; replace H := H.no hNo; clear hNo; refine ⟨_, rfl, ?_⟩
    refine go_R H ?_; clear H; intro w H
    exact ret1 rfl rv_tmp ⟨false, rfl, ⟨nofun, fun h => (hc h.c).elim⟩, H.fr⟩
  refine q_call (between_t hc _) ?_; rintro _ w1 ⟨rfl, hNo⟩; replace H := H.no hNo; clear hNo; refine ⟨_, rfl, ?_⟩
  refine go_R H ?_; clear H; intro w H
  by_cases hd : 0 ≤ v.vec.d ∧ v.vec.d ≤ 150
  rotate_left
  · refine q_call (between_f hd _) ?_; rintro _ w1 ⟨rfl, hNo⟩; replace H := H.no hNo; clear hNo; refine ⟨_, rfl, ?_⟩
    refine go_R H ?_; clear H; intro w H
    exact ret1 rfl rv_tmp ⟨false, rfl, ⟨nofun, fun h => (hd h.d).elim⟩, H.fr⟩
  refine q_call (between_t hd _) ?_; rintro _ w1 ⟨rfl, hNo⟩; replace H := H.no hNo; clear hNo; refine ⟨_, rfl, ?_⟩
  refine go_R H ?_; clear H; intro w H
  by_cases h1 : 1 ≤ v.client ∧ v.client ≤ 4
  rotate_left
  · refine q_call (client_f h1 _) ?_; rintro _ w1 ⟨rfl, hNo⟩; replace H := H.no hNo; clear hNo; refine ⟨_, rfl, ?_⟩
    refine go_R H ?_; clear H; intro w H
    exact ret1 rfl rv_tmp ⟨false, rfl, ⟨nofun, fun h => (h1 h.client).elim⟩, H.fr⟩
  refine q_call (client_t h1 _) ?_; rintro _ w1 ⟨rfl, hNo⟩; replace H := H.no hNo; clear hNo; refine ⟨_, rfl, ?_⟩
  refine go_R H ?_; clear H; intro w H
  by_cases h2 : 1 ≤ v.n ∧ v.n ≤ 150
  rotate_left
  · refine q_call (between_f h2 _) ?_; rintro _ w1 ⟨rfl, hNo⟩; replace H := H.no hNo; clear hNo; refine ⟨_, rfl, ?_⟩
    refine go_R H ?_; clear H; intro w H
    exact ret1 rfl rv_tmp ⟨false, rfl, ⟨nofun, fun h => (h2 h.n).elim⟩, H.fr⟩
  refine q_call (between_t h2 _) ?_; rintro _ w1 ⟨rfl, hNo⟩; replace H := H.no hNo; clear hNo; refine ⟨_, rfl, ?_⟩
  refine go_R H ?_; clear H; intro w H
  by_cases h3 : 1 ≤ v.count ∧ v.count ≤ 150
  rotate_left
  · refine q_call (between_f h3 _) ?_; rintro _ w1 ⟨rfl, hNo⟩; replace H := H.no hNo; clear hNo; refine ⟨_, rfl, ?_⟩
    refine go_R H ?_; clear H; intro w H
    exact ret1 rfl rv_tmp ⟨false, rfl, ⟨nofun, fun h => (h3 h.count).elim⟩, H.fr⟩
  refine q_call (between_t h3 _) ?_; rintro _ w1 ⟨rfl, hNo⟩; replace H := H.no hNo; clear hNo; refine ⟨_, rfl, ?_⟩
  refine go_R H ?_; clear H; intro w H
  by_cases h4 : 0 ≤ v.epoch ∧ v.epoch ≤ 150
  rotate_left
  · refine q_call (between_f h4 _) ?_; rintro _ w1 ⟨rfl, hNo⟩; replace H := H.no hNo; clear hNo; refine ⟨_, rfl, ?_⟩
    refine go_R H ?_; clear H; intro w H
    exact ret1 rfl rv_tmp ⟨false, rfl, ⟨nofun, fun h => (h4 h.epoch).elim⟩, H.fr⟩
  refine q_call (between_t h4 _) ?_; rintro _ w1 ⟨rfl, hNo⟩; replace H := H.no hNo; clear hNo; refine ⟨_, rfl, ?_⟩
  refine go_R H ?_; clear H; intro w H
  exact ret1 rfl rv_tmp ⟨true, rfl, ⟨fun _ => ⟨ha, hb, hc, hd, h1, h2, h3, h4⟩, fun _ => rfl⟩, H.fr⟩
end Go.Proofs.Ytamkekmaahnbcaa
namespace Go.Proofs.Ytamkekmaahnbcaa
open Go.RowKit

def V.tagged (v : V) (T : B32) : V := { v with tag := T }
theorem V.tagged_in {v : V} (h : v.In) (T : B32) : (v.tagged T).In := ⟨h.client, h.n, h.count, h.epoch, h.a, h.b, h.c, h.d⟩
theorem vbytes_tagged (v : V) (T : B32) : vbytes (v.tagged T) = vbytes v := rfl
set_option maxRecDepth 100000 in
set_option maxHeartbeats 2000000 in
theorem Sign_ideal (c gx gt gs gm gl : Nat) (s : Int) (i at' : Nat) (v0 : Value) (Ms : List (SK × List UInt8)) (Mm Ml : List (MK × List UInt8)) (key : B32) (v : V) (W : World) (hB : BOk c s i at' Ms Mm Ml) (hc : c < 10000) (hv : v.In) :
    Tri Try.prog 29 [.pointer (some ⟨gx, 0, none⟩), .agg (bs key.l).toArray, v.val] (BXl gx gt gs gm gl s i at' v0 Ms Mm Ml) W fun u L =>
      ∃ i' v' T, BOk (c + 1) s i' (bookOf s at' Mm (key.l, vbytes v)).2.1 Ms (bookOf s at' Mm (key.l, vbytes v)).2.2 Ml ∧ B32.l T = (bookOf s at' Mm (key.l, vbytes v)).1 ∧ u = (v.tagged T).val ∧
        L = BXl gx gt gs gm gl s i' (bookOf s at' Mm (key.l, vbytes v)).2.1 v' Ms (bookOf s at' Mm (key.l, vbytes v)).2.2 Ml := by
  refine Tri.of fun F H => ?_
  have hbl := vbytes_length v
  have MA := fun bv w => Mark_ideal c gx gt gs gm gl s i at' v0 Ms Mm Ml key.l bv (vbytes v) w hB hc key.len (by omega)
  have hbk := bookOf_length s at' Mm (key.l, vbytes v) hB.vm
  generalize bookOf s at' Mm (key.l, vbytes v) = bk at *
  obtain ⟨T, at2, M2⟩ := bk
  dsimp only at *
  obtain ⟨T, rfl⟩ := B32.of hbk
  have BY := fun w => Bytes_any v w hv
  generalize vbytes v = vb at *
  refine q_enter Try.func29 rfl rfl ?_
  refine go_R H ?_; clear H; intro w H
  refine q_box H ?_; clear H; intro gk w H
  refine go_R H ?_; clear H; intro w H
  refine q_box H ?_; clear H; intro gv w H
  refine go_R H ?_; clear H; intro w H
  refine q_alloc H ?_; clear H; intro g6 w H
  refine go_R H ?_; clear H; intro w H
  replace H := H.drew
  refine r_start (Hold [(gk, .cells (bs key.l).toArray 34 (0, 0))]) 7 rfl holdS ?_
  have hkl : (bs key.l).length = 32 := partLen _ _
  refine r_takeR 0 ?_; refine r_takeR 1 ?_
  refine r_op 2 rfl ?_
  refine q_loadRW (g := gv) H ?_
  refine q_nil ?_; refine r_nextS ?_
  refine r_op 3 rfl ?_
  refine q_tri H (BY _) ?_; clear H; rintro v1 _ w rfl H
  refine q_nil ?_; refine r_nextS ?_
  refine r_op 4 rfl ?_
  refine q_triR H (MA v1 _) ?_; clear H; rintro _ _ w ⟨i', v', B2, rfl, rfl⟩ H
  refine q_nil ?_; refine r_nextS ?_
  refine r_takeR 5 ?_
  refine r_op 6 rfl ?_
  refine q_storeR (g := gv) H ?_; clear H; intro w H
  refine q_nil ?_; refine r_nextS ?_
  refine r_done ?_
  refine go_R H ?_; clear H; intro w H
  exact ret1 rfl (rv_cat H) ⟨_, _, rfl, ⟨i', v', T, B2, rfl, rfl, rfl⟩, H.sub (by repeat (first | exact Sub.nil | apply Sub.cons | exact Take.z | apply Take.s))⟩
set_option maxRecDepth 100000 in
set_option maxHeartbeats 2000000 in
theorem Sign_real (gx : Nat) (p m1 m2 m3 : Value) (key : B32) (v : V) (W : World) (hv : v.In) :
    Tri Try.prog 29 [.pointer (some ⟨gx, 0, none⟩), .agg (bs key.l).toArray, v.val] [cells gx [.int .i64 0, p, m1, m2, m3] 71] W fun u L =>
      ∃ T, B32.l T = hmac key.l (vbytes v) ∧ u = (v.tagged T).val ∧ L = [cells gx [.int .i64 0, p, m1, m2, m3] 71] := by
  refine Tri.of fun F H => ?_
  have hbl := vbytes_length v
  have MA := fun bv w => Mark_real gx key.l bv (vbytes v) p m1 m2 m3 w key.len (by omega)
  obtain ⟨T, hT⟩ := B32.of (hmac_length key.l (vbytes v))
  rw [hT] at MA ⊢
  have BY := fun w => Bytes_any v w hv
  generalize vbytes v = vb at *
  refine q_enter Try.func29 rfl rfl ?_
  refine go_R H ?_; clear H; intro w H
  refine q_box H ?_; clear H; intro gk w H
  refine go_R H ?_; clear H; intro w H
  refine q_box H ?_; clear H; intro gv w H
  refine go_R H ?_; clear H; intro w H
  refine q_alloc H ?_; clear H; intro g6 w H
  refine go_R H ?_; clear H; intro w H
  replace H := H.drew
  refine r_start (Hold [(gk, .cells (bs key.l).toArray 34 (0, 0))]) 7 rfl holdS ?_
  have hkl : (bs key.l).length = 32 := partLen _ _
  refine r_takeR 0 ?_; refine r_takeR 1 ?_
  refine r_op 2 rfl ?_
  refine q_loadRW (g := gv) H ?_
  refine q_nil ?_; refine r_nextS ?_
  refine r_op 3 rfl ?_
  refine q_tri H (BY _) ?_; clear H; rintro v1 _ w rfl H
  refine q_nil ?_; refine r_nextS ?_
  refine r_op 4 rfl ?_
  refine q_triR H (MA v1 _) ?_; clear H; rintro _ _ w ⟨rfl, rfl⟩ H
  refine q_nil ?_; refine r_nextS ?_
  refine r_takeR 5 ?_
  refine r_op 6 rfl ?_
  refine q_storeR (g := gv) H ?_; clear H; intro w H
  refine q_nil ?_; refine r_nextS ?_
  refine r_done ?_
  refine go_R H ?_; clear H; intro w H
  exact ret1 rfl (rv_cat H) ⟨_, _, rfl, ⟨T, rfl, rfl, rfl⟩, H.sub (by repeat (first | exact Sub.nil | apply Sub.cons | exact Take.z | apply Take.s))⟩
set_option maxRecDepth 100000 in
set_option maxHeartbeats 2000000 in
theorem VIs_ideal (c gx gt gs gm gl : Nat) (s : Int) (i at' : Nat) (v0 : Value) (Ms : List (SK × List UInt8)) (Mm Ml : List (MK × List UInt8)) (key : B32) (v : V) (W : World) (hB : BOk c s i at' Ms Mm Ml) (hv : v.In) :
    Tri Try.prog 31 [.pointer (some ⟨gx, 0, none⟩), .agg (bs key.l).toArray, v.val] (BXl gx gt gs gm gl s i at' v0 Ms Mm Ml) W fun u L =>
      u = .bool (decide (mget Mm (key.l, vbytes v) = some v.tag.l)) ∧ L = BXl gx gt gs gm gl s i at' v0 Ms Mm Ml := by
  refine Tri.of fun F H => ?_
  have hbl := vbytes_length v
  have IS := fun bv w => Is_ideal c gx gt gs gm gl s i at' v0 Ms Mm Ml key.l v.tag.l bv (vbytes v) w hB key.len v.tag.len (by omega)
  have BY := fun w => Bytes_any v w hv
  generalize vbytes v = vb at *
  refine q_enter Try.func31 rfl rfl ?_
  refine go_R H ?_; clear H; intro w H
  refine q_box H ?_; clear H; intro gk w H
  refine go_R H ?_; clear H; intro w H
  refine q_box H ?_; clear H; intro gv w H
  refine go_R H ?_; clear H; intro w H
  replace H := H.drew
  refine r_start (Hold [(gk, .cells (bs key.l).toArray 34 (0, 0)), (gv, .cells (cat v.ss).toArray 55 (0, 0))]) 8 rfl holdS ?_
  have hkl : (bs key.l).length = 32 := partLen _ _
  refine r_takeR 0 ?_; refine r_takeR 1 ?_; refine r_takeR 2 ?_; refine r_takeR 4 ?_; refine r_takeR 5 ?_
  refine r_op 3 rfl ?_
  refine q_tri H (BY _) ?_; clear H; rintro v1 _ w rfl H
  refine q_nil ?_; refine r_nextS ?_
  refine r_op 6 rfl ?_
  refine q_triR H (IS v1 _) ?_; clear H; rintro _ _ w ⟨rfl, rfl⟩ H
  refine q_nil ?_; refine r_nextS ?_
  refine r_takeR 7 ?_
  refine r_done ?_
  refine go_R H ?_; clear H; intro w H
  exact ret1 rfl rv_tmp ⟨_, _, rfl, ⟨rfl, rfl⟩, H.sub (by repeat (first | exact Sub.nil | apply Sub.cons | exact Take.z | apply Take.s))⟩
set_option maxRecDepth 100000 in
set_option maxHeartbeats 2000000 in
theorem VIs_real (gx : Nat) (p m1 m2 m3 : Value) (key : B32) (v : V) (W : World) (hv : v.In) :
    Tri Try.prog 31 [.pointer (some ⟨gx, 0, none⟩), .agg (bs key.l).toArray, v.val] [cells gx [.int .i64 0, p, m1, m2, m3] 71] W fun u L =>
      u = .bool (decide (hmac key.l (vbytes v) = v.tag.l)) ∧ L = [cells gx [.int .i64 0, p, m1, m2, m3] 71] := by
  refine Tri.of fun F H => ?_
  have hbl := vbytes_length v
  have IS := fun bv w => Is_real gx key.l v.tag.l bv (vbytes v) p m1 m2 m3 w key.len v.tag.len (by omega)
  have BY := fun w => Bytes_any v w hv
  generalize hmac key.l (vbytes v) = hm at *
  generalize vbytes v = vb at *
  refine q_enter Try.func31 rfl rfl ?_
  refine go_R H ?_; clear H; intro w H
  refine q_box H ?_; clear H; intro gk w H
  refine go_R H ?_; clear H; intro w H
  refine q_box H ?_; clear H; intro gv w H
  refine go_R H ?_; clear H; intro w H
  replace H := H.drew
  refine r_start (Hold [(gk, .cells (bs key.l).toArray 34 (0, 0)), (gv, .cells (cat v.ss).toArray 55 (0, 0))]) 8 rfl holdS ?_
  have hkl : (bs key.l).length = 32 := partLen _ _
  refine r_takeR 0 ?_; refine r_takeR 1 ?_; refine r_takeR 2 ?_; refine r_takeR 4 ?_; refine r_takeR 5 ?_
  refine r_op 3 rfl ?_
  refine q_tri H (BY _) ?_; clear H; rintro v1 _ w rfl H
  refine q_nil ?_; refine r_nextS ?_
  refine r_op 6 rfl ?_
  refine q_triR H (IS v1 _) ?_; clear H; rintro _ _ w ⟨rfl, rfl⟩ H
  refine q_nil ?_; refine r_nextS ?_
  refine r_takeR 7 ?_
  refine r_done ?_
  refine go_R H ?_; clear H; intro w H
  exact ret1 rfl rv_tmp ⟨_, _, rfl, ⟨rfl, rfl⟩, H.sub (by repeat (first | exact Sub.nil | apply Sub.cons | exact Take.z | apply Take.s))⟩
end Go.Proofs.Ytamkekmaahnbcaa
namespace Go.Proofs.Ytamkekmaahnbcaa
open Go.RowKit

section
variable {P : Program} {n : Nat} {ρ : Env} {w : World} {d : Nat} {T : TypeId} {p : String} {af : Array Edge} {gd : Option (Nat × Bool)}
theorem x_buildZ {t m e : Nat} [ha : ArrOf P t m e 1] [hz : ZeroOf P t (bs (List.replicate m 0))] :
    (execOp (ev ρ) ⟨some d, .build t #[], T, p, af, gd⟩).run P w = .ok (.value (.agg (bs (List.replicate m 0)).toArray)) w := by
  have hb := built_arr (P := P) (t := t) (z := bs (List.replicate m 0)) (l := bs (List.replicate m 0)) (parts := []) rfl
  have := run_build (P := P) w t #[] _ hb
  simp only [execOp, Sem.run_bind, List.map_toArray, List.map_nil, this, Result.andThen_ok, Sem.run_pure]
theorem x_buildB1 {t m e i : Nat} {x : Operand} {b : UInt8} [ha : ArrOf P t m e 1] [hz : ZeroOf P t (bs (List.replicate m 0))]
    (hx : ev ρ x = .int .u8 (by8 b) := by rfl) (hi : i < m := by decide) :
    (execOp (ev ρ) ⟨some d, .build t #[(i, x)], T, p, af, gd⟩).run P w = .ok (.value (.agg (bs ((List.replicate m 0).set i b)).toArray)) w := by
  have hb := built_arr (P := P) (t := t) (z := bs (List.replicate m 0)) (l := bs ((List.replicate m 0).set i b)) (parts := [(i, .int .u8 (by8 b))]) (by
    rw [fill_one rfl (by simpa [bs_length] using hi), bs_setQ]; rfl)
  have := run_build (P := P) w t #[(i, .int .u8 (by8 b))] _ hb
  simp only [execOp, Sem.run_bind, List.map_toArray, List.map_cons, List.map_nil, hx, this, Result.andThen_ok, Sem.run_pure]
end
theorem May_t {v : V} (h : vmay v) (w : World) : Calls Try.prog 27 #[v.val] w fun e w' => e = .returned (.bool true) ∧ No w w' :=
  (May_any v w).mono fun _ _ ⟨r, he, hr, hn⟩ => ⟨by rw [he, hr.2 h], hn⟩
theorem May_f {v : V} (h : ¬ vmay v) (w : World) : Calls Try.prog 27 #[v.val] w fun e w' => e = .returned (.bool false) ∧ No w w' :=
  (May_any v w).mono fun _ _ ⟨r, he, hr, hn⟩ => ⟨by rw [he]; cases r with | false => rfl | true => exact (h (hr.1 rfl)).elim, hn⟩
theorem Follows_t {l v : V} (hl : l.Sm) (hv : v.In) (h : vfollows l v) (w : World) : Calls Try.prog 26 #[l.val, v.val] w fun e w' => e = .returned (.bool true) ∧ No w w' :=
  (Follows_any l v w hl hv).mono fun _ _ ⟨r, he, hr, hn⟩ => ⟨by rw [he, hr.2 h], hn⟩
theorem Follows_f {l v : V} (hl : l.Sm) (hv : v.In) (h : ¬ vfollows l v) (w : World) : Calls Try.prog 26 #[l.val, v.val] w fun e w' => e = .returned (.bool false) ∧ No w w' :=
  (Follows_any l v w hl hv).mono fun _ _ ⟨r, he, hr, hn⟩ => ⟨by rw [he]; cases r with | false => rfl | true => exact (h (hr.1 rfl)).elim, hn⟩
theorem V.zero_sm : V.zero.Sm := ⟨V.zero_in, by decide, by decide, by decide, by decide, by decide⟩
def kk (b : UInt8) : B32 := ⟨(List.replicate 32 0).set 0 b, by simp⟩
/-- The first of the self-test. -/
def vA0 : V := ⟨2, 1, 1, B32.zero, B32.zero, 0, ⟨0, 1, 0, 0⟩, B32.zero⟩
theorem vA0_eq : vnext V.zero 2 = vA0 := by
  unfold vnext vA0
  rw [vhash_zero]
  rfl
theorem vA0_in : vA0.In := by constructor <;> (unfold In64 vA0; dsimp only; omega)
def tT : B32 := ⟨tp 1 0 32, tp_length _ _ _⟩
def vA : V := vA0.tagged tT
theorem vA_in : vA.In := V.tagged_in vA0_in _
theorem vA_sm : vA.Sm := ⟨vA_in, by decide, by decide, by decide, by decide, by decide⟩
theorem vA_ne : vA ≠ V.zero := fun h => by have := congrArg V.client h; exact absurd this (by decide)
theorem vA_hash : (vhash vA).l ≠ List.replicate 32 0 := by
  rw [vhash_else vA_ne]
  decide +kernel
noncomputable def vB : V := vnext vA 2
theorem vB_in : vB.In := by
  have := vnextT_in vA_sm 2
  unfold vnextT at this
  rw [if_pos (by decide)] at this
  exact this
set_option maxRecDepth 100000 in
set_option maxHeartbeats 8000000 in
theorem begun14_any (W : World) : Calls Try.prog 24 #[] W fun e w' => e = .returned (.bool true) ∧ No W w' := by
  have H := St.nil (fun _ => False) W
  have B0 := BOk.new 1 (by omega)
  have hbk : bookOf 1 0 [] ((kk 1).l, vbytes vA0) = (tT.l, 32, [(((kk 1).l, vbytes vA0), tT.l)]) := rfl
  refine q_enter Try.func24 rfl rfl ?_
  refine go_R H ?_; clear H; intro w H
  refine q_tri H (TNew_any 1 _) ?_; clear H; rintro _ _ w ⟨gt, rfl, rfl⟩ H
  refine q_tri H (BNew_ideal ⟨gt, 0, none⟩ _) ?_; clear H; rintro _ _ w ⟨gx, gs, gm, gl, rfl, rfl⟩ H
  replace H : St _ _ (BXl gx gt gs gm gl 1 0 0 (.slice none 0 0) [] [] []) _ := H.sub (by repeat (first | exact Sub.nil | apply Sub.cons | exact Take.z | apply Take.s))
  refine go_R H ?_; clear H; intro w H
  refine q_buildB1 (b := 1) ?_
  refine go_R H ?_; clear H; intro w H
  refine q_buildR V.zero.ss ?_
  refine go_R H ?_; clear H; intro w H
  have N1 := fun w => Next_good V.zero 2 w V.zero_sm (by omega)
  rw [vA0_eq] at N1
  refine q_call (N1 _) ?_; rintro _ w1 ⟨rfl, hNo⟩; replace H := H.no hNo; clear hNo; refine ⟨_, rfl, ?_⟩
  have S1 := fun w => Sign_ideal 0 gx gt gs gm gl 1 0 0 (.slice none 0 0) [] [] [] (kk 1) vA0 w B0 (by omega) vA0_in
  rw [hbk] at S1
  dsimp only at S1
  refine q_tri H (S1 _) ?_; clear H; rintro _ _ w ⟨i1, v1, T, B1, hT, rfl, rfl⟩ H
  obtain rfl : T = tT := B32.ext' hT
  clear hT
  change LW _ _ _ _ _ (pu _ _ vA.val) _
  refine go_R H ?_; clear H; intro w H
  refine q_alloc H ?_; clear H; intro g2 w H
  refine go_R H ?_; clear H; intro w H
  have N2 := fun w => Next_good vA 2 w vA_sm (by omega)
  refine q_call (N2 _) ?_; rintro _ w1 ⟨rfl, hNo⟩; replace H := H.no hNo; clear hNo; refine ⟨_, rfl, ?_⟩
  change LW _ _ _ _ _ (pu _ _ vB.val) _
  obtain ⟨b, hb⟩ : ∃ b, vB = b := ⟨_, rfl⟩
  have hbi := hb ▸ vB_in
  have b1 : b.epoch = 0 := by rw [← hb]; rfl
  have b2 : b.count = 2 := by rw [← hb]; rfl
  have b3 : b.prev = vhash vA := by rw [← hb]; rfl
  have b4 : b.client = 2 := by rw [← hb]; rfl
  have b5 : vnextT vA 2 = b := by rw [← hb]; exact if_pos (by decide)
  rw [hb]
  refine go_R H ?_; clear H; intro w H
  refine q_alloc H ?_; clear H; intro g3 w H
  refine go_R H ?_; clear H; intro w H
  refine q_alloc H ?_; clear H; intro g4 w H
  refine go_R H ?_; clear H; intro w H
  refine q_alloc H ?_; clear H; intro g5 w H
  refine go_R H ?_; clear H; intro w H
  have hc : St _ _ (cells g5 (cat ({ b with count := b.count + 1 } : V).ss) 55 :: cells g4 (cat ({ b with epoch := b.epoch + 1 } : V).ss) 55 :: cells g3 (cat b.ss) 55 :: cells g2 (cat vA.ss) 55 :: BXl gx gt gs gm gl 1 i1 32 v1 [] [(((kk 1).l, vbytes vA0), tT.l)] []) _ := H.sub (by repeat (first | exact Sub.nil | apply Sub.cons | exact Take.z | apply Take.s))
  clear H
  have H := hc
  clear hc
  obtain ⟨c, hcc⟩ : ∃ c, ({ b with epoch := b.epoch + 1 } : V) = c := ⟨_, rfl⟩
  obtain ⟨d, hdd⟩ : ∃ d, ({ b with count := b.count + 1 } : V) = d := ⟨_, rfl⟩
  have hci : c.In := by rw [← hcc]; exact ⟨hbi.client, hbi.n, hbi.count, by unfold In64; dsimp only; omega, hbi.a, hbi.b, hbi.c, hbi.d⟩
  have hdi : d.In := by rw [← hdd]; exact ⟨hbi.client, hbi.n, by unfold In64; dsimp only; omega, hbi.epoch, hbi.a, hbi.b, hbi.c, hbi.d⟩
  have F1 : vfollows V.zero vA := by
    have e : vnextT V.zero vA.client = vA0 := by
      show vnextT V.zero 2 = vA0
      unfold vnextT; rw [if_pos (by decide), vA0_eq]
    unfold vfollows; rw [e]
    exact ⟨by decide, by decide, by decide, rfl⟩
  have F2 : vfollows vA b := by
    unfold vfollows vfollows'
    rw [b4, b5]
    exact ⟨by omega, by omega, by omega, rfl⟩
  have F3 : vfollows vA c := by
    unfold vfollows vfollows'
    rw [show c.client = 2 by rw [← hcc]; exact b4, b5, ← hcc]
    dsimp only
    exact ⟨by omega, by omega, by omega, rfl⟩
  have F4 : ¬ vfollows vA d := by
    unfold vfollows vfollows'
    rw [show d.client = 2 by rw [← hdd]; exact b4, b5, ← hdd]
    intro h
    have := congrArg V.count h.2.2.2
    dsimp only at this
    omega
  have a1 : vA.client = 2 := rfl
  have a2 : vA.n = 1 := rfl
  have a3 : vA.count = 1 := rfl
  have a4 : vA.vec.b = 1 := rfl
  have M1 : vmay vA := by constructor <;> decide
  have M2 : ¬ vmay V.zero := fun h => absurd h.client.1 (by decide)
  rw [hcc, hdd] at H
  have I1 := fun w => VIs_ideal 1 gx gt gs gm gl 1 i1 32 v1 [] [(((kk 1).l, vbytes vA0), tT.l)] [] (kk 1) vA w B1 vA_in
  have I2 := fun w => VIs_ideal 1 gx gt gs gm gl 1 i1 32 v1 [] [(((kk 1).l, vbytes vA0), tT.l)] [] (kk 2) vA w B1 vA_in
  rw [decide_eq_true (show mget [(((kk 1).l, vbytes vA0), tT.l)] ((kk 1).l, vbytes vA) = some vA.tag.l from if_pos rfl)] at I1
  rw [decide_eq_false (show ¬ mget [(((kk 1).l, vbytes vA0), tT.l)] ((kk 2).l, vbytes vA) = some vA.tag.l from by
    rw [show mget [(((kk 1).l, vbytes vA0), tT.l)] ((kk 2).l, vbytes vA) = none from if_neg (fun e => absurd (congrArg Prod.fst e) (by decide))]
    exact nofun)] at I2
  replace H := H.drew
  refine r_start (Hold [(g2, .cells (cat vA.ss).toArray 55 (0, 0)), (g3, .cells (cat b.ss).toArray 55 (0, 0)), (g4, .cells (cat c.ss).toArray 55 (0, 0)), (g5, .cells (cat d.ss).toArray 55 (0, 0))]) 85 rfl holdS ?_
  refine r_op 0 rfl ?_
  refine q_call (Begun8_any _) ?_; rintro _ w1 ⟨rfl, hNo⟩; replace H := H.no hNo; clear hNo; refine ⟨_, rfl, ?_⟩
  refine q_nil ?_; refine r_nextS ?_
  refine r_takeR 1 ?_; refine r_takeR 2 ?_; refine r_takeR 3 ?_
  refine r_takeR 4 ?_
  refine r_takeR 5 ?_; refine r_takeR 6 ?_; refine r_takeR 7 ?_; refine r_takeR 8 ?_
  refine r_takeR 9 ?_
  refine r_takeR 10 ?_; refine r_takeR 11 ?_; refine r_takeR 12 ?_; refine r_takeR 13 ?_
  refine r_takeR 14 ?_
  refine r_takeR 15 ?_; refine r_takeR 16 ?_; refine r_takeR 17 ?_; refine r_takeR 18 ?_
  refine r_take 19 rfl rfl (fun w hS => x_ldC hS.1 rfl (cat_in (ss := vA.ss) (off := 68) (k := 4) (i := 6) (j := 1) SegsOf.out ⟨rfl, rfl⟩ rfl rfl)) ?_
  refine r_takeR 20 ?_
  refine r_takeR 21 ?_; refine r_takeR 22 ?_; refine r_takeR 23 ?_
  refine r_op 24 rfl ?_
  refine q_call (May_t M1 _) ?_; rintro _ w1 ⟨rfl, hNo⟩; replace H := H.no hNo; clear hNo; refine ⟨_, rfl, ?_⟩
  refine q_nil ?_; refine r_nextS ?_
  refine r_takeR 25 ?_; refine r_takeR 26 ?_; refine r_takeR 27 ?_
  refine r_take 28 rfl rfl (fun w hS => x_buildB1 (b := 1)) ?_
  refine r_takeR 29 ?_
  refine r_op 30 rfl ?_
  refine q_tri H (I1 _) ?_; clear H; rintro _ _ w ⟨rfl, rfl⟩ H
  refine q_nil ?_; refine r_nextS ?_
  refine r_takeR 31 ?_; refine r_takeR 32 ?_; refine r_takeR 33 ?_
  refine r_take 34 rfl rfl (fun w hS => x_buildB1 (b := 2)) ?_
  refine r_takeR 35 ?_
  refine r_op 36 rfl ?_
  refine q_tri H (I2 _) ?_; clear H; rintro _ _ w ⟨rfl, rfl⟩ H
  refine q_nil ?_; refine r_nextS ?_
  refine r_takeR 37 ?_; refine r_takeR 38 ?_; refine r_takeR 39 ?_; refine r_takeR 40 ?_; refine r_takeR 42 ?_; refine r_takeR 41 ?_
  refine r_op 43 rfl ?_
  refine q_call (Hash_any vA _ vA_in) ?_; rintro _ w1 ⟨rfl, hNo⟩; replace H := H.no hNo; clear hNo; refine ⟨_, rfl, ?_⟩
  refine q_nil ?_; refine r_nextS ?_
  refine r_op 44 rfl ?_
  refine q_weq_t (Kv_bytes b.prev.l b.prev.len) (Kv_bytes (vhash vA).l (vhash vA).len) (by rw [b3]) ?_
  refine q_nil ?_; refine r_nextS ?_
  refine r_takeR 45 ?_; refine r_takeR 46 ?_; refine r_takeR 47 ?_
  refine r_take 49 rfl rfl (fun w hS => x_buildZ) ?_
  refine r_op 48 rfl ?_
  refine q_call (Hash_any vA _ vA_in) ?_; rintro _ w1 ⟨rfl, hNo⟩; replace H := H.no hNo; clear hNo; refine ⟨_, rfl, ?_⟩
  refine q_nil ?_; refine r_nextS ?_
  refine r_op 50 rfl ?_
  refine q_wne_t (Kv_bytes (vhash vA).l (vhash vA).len) (Kv_bytes (List.replicate 32 0) rfl) (fun e => vA_hash (bs_inj (agg_inj e))) ?_
  refine q_nil ?_; refine r_nextS ?_
  refine r_takeR 51 ?_; refine r_takeR 52 ?_
  refine r_take 53 rfl rfl (fun w hS => x_buildR V.zero.ss) ?_
  refine r_take 55 rfl rfl (fun w hS => x_buildZ) ?_
  refine r_op 54 rfl ?_
  refine q_call (Hash_any V.zero _ V.zero_in) ?_; rintro _ w1 ⟨rfl, hNo⟩; replace H := H.no hNo; clear hNo; refine ⟨_, rfl, ?_⟩
  refine q_nil ?_; refine r_nextS ?_
  refine r_op 56 rfl ?_
  refine q_weq_t (Kv_bytes (vhash V.zero).l (vhash V.zero).len) (Kv_bytes (List.replicate 32 0) rfl) (by rw [vhash_zero]; rfl) ?_
  refine q_nil ?_; refine r_nextS ?_
  refine r_takeR 57 ?_; refine r_takeR 58 ?_
  refine r_take 59 rfl rfl (fun w hS => x_buildR V.zero.ss) ?_
  refine r_takeR 60 ?_
  refine r_op 61 rfl ?_
  refine q_call (Follows_t V.zero_sm vA_in F1 _) ?_; rintro _ w1 ⟨rfl, hNo⟩; replace H := H.no hNo; clear hNo; refine ⟨_, rfl, ?_⟩
  refine q_nil ?_; refine r_nextS ?_
  refine r_takeR 62 ?_; refine r_takeR 63 ?_; refine r_takeR 64 ?_; refine r_takeR 65 ?_
  refine r_op 66 rfl ?_
  refine q_call (Follows_t vA_sm hbi F2 _) ?_; rintro _ w1 ⟨rfl, hNo⟩; replace H := H.no hNo; clear hNo; refine ⟨_, rfl, ?_⟩
  refine q_nil ?_; refine r_nextS ?_
  refine r_takeR 67 ?_; refine r_takeR 68 ?_; refine r_takeR 69 ?_; refine r_takeR 70 ?_
  refine r_op 71 rfl ?_
  refine q_call (Follows_t vA_sm hci F3 _) ?_; rintro _ w1 ⟨rfl, hNo⟩; replace H := H.no hNo; clear hNo; refine ⟨_, rfl, ?_⟩
  refine q_nil ?_; refine r_nextS ?_
  refine r_takeR 72 ?_; refine r_takeR 73 ?_; refine r_takeR 74 ?_
  refine r_take 75 rfl rfl (fun w hS => x_ldRW hS.2.2.2.1) ?_
  refine r_op 76 rfl ?_
  refine q_call (Follows_f vA_sm hdi F4 _) ?_; rintro _ w1 ⟨rfl, hNo⟩; replace H := H.no hNo; clear hNo; refine ⟨_, rfl, ?_⟩
  refine q_nil ?_; refine r_nextS ?_
  refine r_takeR 77 ?_; refine r_takeR 78 ?_; refine r_takeR 79 ?_
  refine r_take 80 rfl rfl (fun w hS => x_buildR V.zero.ss) ?_
  refine r_op 81 rfl ?_
  refine q_call (May_f M2 _) ?_; rintro _ w1 ⟨rfl, hNo⟩; replace H := H.no hNo; clear hNo; refine ⟨_, rfl, ?_⟩
  refine q_nil ?_; refine r_nextS ?_
  refine r_takeR 82 ?_; refine r_takeR 83 ?_; refine r_takeR 84 ?_
  refine r_done ?_
  refine go_R H ?_; clear H; intro w H
  exact ret1 rfl rv_tmp ⟨rfl, H.fr⟩
end Go.Proofs.Ytamkekmaahnbcaa
