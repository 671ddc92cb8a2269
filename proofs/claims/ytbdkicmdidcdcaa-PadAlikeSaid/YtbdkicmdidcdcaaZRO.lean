/-
  record: Seal, Open (the ideal box). record: Open (the ideal box).
-/
import Derived.Test.YtbdkicmdidcdcaaZPR
import Derived.Test.YtbdkicmdidcdcaaZKeysA
import Derived.Test.YtbdkicmdidcdcaaZN
import Derived.Test.YtbdkicmdidcdcaaZQ
import Derived.Test.YtbdkicmdidcdcaaZI
namespace Go.Proofs.Ytbdkicmdidcdcaa
open Go.RowKit

structure En where
  (epoch n : Int) (ct : List UInt8)
abbrev En.ss (e : En) : List (List Value) := [[.int .i64 e.epoch], [.int .i64 e.n], [.string (str e.ct)]]
abbrev En.v (e : En) : Value := .agg (cat e.ss).toArray
def En.zero : En := ⟨0, 0, []⟩
theorem sealPart (k : K) : ((cat k.ss).drop 0).take 32 = bs k.seal_.l := (cat_part (ns := [32, 32, 32]) (i := 0) (SegsOf.out) ⟨rfl, rfl⟩ rfl).1
set_option maxRecDepth 100000 in
set_option maxHeartbeats 4000000 in
theorem RSeal_ideal (c gx gt gs gm gl : Nat) (s : Int) (i at' : Nat) (v : Value) (Ms : List (SK × List UInt8)) (Mm Ml : List (MK × List UInt8)) (sv : Value) (secret : List UInt8) (e n : Int) (label : B32) (r : R) (W : World) (hB : BOk c s i at' Ms Mm Ml) (hc : c < 10000)
    (hsl : secret.length ≤ 100000) (he : 0 ≤ e) (he' : e ≤ 9223372036854775807) (hn : 0 ≤ n) (hn' : n ≤ 9223372036854775807) (hm : rmay r) (sz : Nat) (hsz : psize (rbytes r).length = sz) :
    TriR Try.prog 33 [.pointer (some ⟨gx, 0, none⟩), sv, .int .i64 e, .int .i64 n, .agg (bs label.l).toArray, r.v] [(sv, secret)] (BXl gx gt gs gm gl s i at' v Ms Mm Ml) W fun u L =>
      ∃ i' v', BOk (c + 1) s i' (at' + (sz + 16)) (mput Ms ((keysOf secret e).seal_.l, n, label.l ++ putN e, tp s at' (sz + 16)) (padB sz (rbytes r))) Mm Ml ∧
        u = .tuple #[En.v ⟨e, n, tp s at' (sz + 16)⟩, .int .i64 0] ∧
        L = BXl gx gt gs gm gl s i' (at' + (sz + 16)) v' (mput Ms ((keysOf secret e).seal_.l, n, label.l ++ putN e, tp s at' (sz + 16)) (padB sz (rbytes r))) Mm Ml := by
  refine TriR.of fun F ⟨⟨hs, hns⟩, _⟩ H => ?_
  obtain ⟨sa, sc, rfl⟩ := hs.val
  have hll := label.len
  have PT := fun w => Put_rec r w
  have OF := fun w (h : RB w (.slice sa secret.length sc) secret) => Of_any (.slice sa secret.length sc) secret e w h hsl ⟨by omega, he'⟩
  obtain ⟨k, hk⟩ : ∃ k, keysOf secret e = k := ⟨_, rfl⟩
  rw [hk] at OF ⊢
  have hkl := k.seal_.len
  have hpn : (label.l ++ putN e).length ≤ 100000 := by have := putN_length e; rw [List.length_append]; omega
  have BS := fun w => beside_any label e w ⟨by omega, he'⟩
  obtain ⟨ad, had⟩ : ∃ x, label.l ++ putN e = x := ⟨_, rfl⟩
  rw [had] at BS hpn ⊢
  obtain ⟨pb, hpb⟩ : ∃ x, padB sz (rbytes r) = x := ⟨_, rfl⟩
  rw [hpb]
  obtain ⟨ver, gone, val⟩ := r
  change Calls _ _ #[_, _, _, _, _, .agg (cat [[.int .i64 ver], [.bool gone], [.string (str val)]]).toArray] _ _
  refine q_enter Try.func33 rfl rfl ?_
  refine go_R H ?_; clear H; intro w H
  refine q_box H ?_; clear H; intro g10 w H
  refine go_R H ?_; clear H; intro w H
  refine q_box H ?_; clear H; intro g11 w H
  refine go_R H ?_; clear H; intro w H
  refine q_alloc H ?_; clear H; intro g12 w H
  refine go_R H ?_; clear H; intro w H
  refine q_tri H (PT _) ?_; clear H; rintro _ _ w (⟨h, _⟩ | ⟨sz', v', _, h0, h1, h2, h3, rfl, ⟨a', rfl⟩, rfl⟩) H
  · exact (h hm).elim
  obtain rfl : sz' = sz := Int.ofNat.inj (h0.symm.trans hsz)
  rw [hpb] at H
  have hbl : pb.length = sz' := by rw [← hpb]; exact padB_length _ _ (by omega)
  have SI := fun av bv w => Seal_ideal c gx gt gs gm gl s i at' v Ms Mm Ml k.seal_.l n av bv ad pb w hB hc hkl hn hn' hpn (by omega)
  rw [hbl] at SI
  obtain ⟨cb, hcb⟩ : ∃ x, tp s at' (sz' + 16) = x := ⟨_, rfl⟩
  have hcl : cb.length = sz' + 16 := by rw [← hcb]; exact tp_length _ _ _
  rw [hcb] at SI ⊢
  replace H : St _ _ (BXl gx gt gs gm gl s i at' v Ms Mm Ml ++ [cells g10 (bs label.l) 26, bsl (.slice (some a') sz' sz') pb, cells g12 (cat En.zero.ss) 55]) _ := H.sub (by repeat (first | exact Sub.nil | apply Sub.cons | exact Take.z | apply Take.s))
  refine go_R H ?_; clear H; intro w H
  replace H := H.drew
  refine r_start (Hold2 [(g10, .cells (bs label.l).toArray 26 (0, 0))] [(.slice sa secret.length sc, secret), (.slice (some a') sz' sz', pb)]) 12 rfl holdS ?_
  refine r_takeR 0 ?_; refine r_takeR 1 ?_; refine r_takeR 2 ?_; refine r_takeR 5 ?_; refine r_takeR 6 ?_; refine r_takeR 7 ?_; refine r_takeR 9 ?_
  refine r_op 3 rfl ?_
  refine q_call (OF _ (H.rb hs hns)) ?_; rintro _ w1 ⟨rfl, hNo⟩; replace H := H.no hNo; clear hNo; refine ⟨_, rfl, ?_⟩
  refine q_nil ?_; refine r_nextS ?_
  refine r_take 4 rfl rfl (fun w hS => x_partA (sealPart k)) ?_
  refine r_op 8 rfl ?_
  refine q_tri H (BS _) ?_; clear H; rintro va _ w rfl H
  refine q_nil ?_; refine r_nextS ?_
  refine r_op 10 rfl ?_
  refine q_triR H (SI va (.slice (some a') sz' sz') _) ?_ (hr := Srcs.cons (Src.own (by (repeat (first | exact Take.z | apply Take.s)); done)) (Srcs.cons (Src.own (by (repeat (first | exact Take.z | apply Take.s)); done)) Srcs.nil)); clear H; rintro vb _ w ⟨i', v', B1, rfl⟩ H
  refine q_nil ?_; refine r_nextS ?_
  refine r_takeR 11 ?_
  refine r_done ?_
  obtain ⟨ba, bc, rfl⟩ := RB.valN (H.rbB (v := vb) (by (repeat (first | exact Take.z | apply Take.s)); done)) hcl
  obtain ⟨gb, ob, rfl⟩ := Rd.some' (n := sz' + 16) (by have := H.rbB (v := .slice ba (sz' + 16) bc) (by (repeat (first | exact Take.z | apply Take.s)); done); unfold RB at this; rw [hcl] at this; exact this) (by omega)
  refine go_R H ?_; clear H; intro w H
  refine q_str (H.rbB (v := .slice (some ⟨gb, ob, none⟩) (sz' + 16) bc) (by (repeat (first | exact Take.z | apply Take.s)); done)) ?_
  refine q_buildR [[.int .i64 e], [.int .i64 n], [.string (str cb)]] ?_
  refine go_R H ?_; clear H; intro w H
  exact ret2 rfl (rv_cat H) rv_tmp ⟨_, _, rfl, ⟨i', v', B1, rfl, rfl⟩, H.sub (by repeat (first | exact Sub.nil | apply Sub.cons | exact Take.z | apply Take.s))⟩
end Go.Proofs.Ytbdkicmdidcdcaa
namespace Go.Proofs.Ytbdkicmdidcdcaa
open Go.RowKit

/-- What an Open of the ideal box gives. -/
noncomputable def ropen (Ms : List (SK × List UInt8)) (key : SK) : Option R := (mget Ms key).bind rget
def OpTo (o : Option R) (u : Value) : Prop := (o = none ∧ u = .tuple #[R.zero.v, .int .i64 9]) ∨ ∃ r, o = some r ∧ u = .tuple #[r.v, .int .i64 0]
theorem Get_none {v : Value} {b : List UInt8} {W : World} (hv : RB W v b) (hb : b.length ≤ 100000) (h : rget b = none) : Calls Try.prog 30 #[v] W fun e w' => e = .returned (.tuple #[R.zero.v, .int .i64 1]) ∧ No W w' := by
  refine (Get_any v b W hv hb).mono ?_
  rintro e w ⟨u, rfl, (⟨_, rfl⟩ | ⟨r, h', _⟩), hn⟩
  · exact ⟨rfl, hn⟩
  · rw [h] at h'; cases h'
theorem Get_some {v : Value} {b : List UInt8} {W : World} {r : R} (hv : RB W v b) (hb : b.length ≤ 100000) (h : rget b = some r) : Calls Try.prog 30 #[v] W fun e w' => e = .returned (.tuple #[r.v, .int .i64 0]) ∧ No W w' := by
  refine (Get_any v b W hv hb).mono ?_
  rintro e w ⟨u, rfl, (⟨h', _⟩ | ⟨r', h', rfl⟩), hn⟩
  · rw [h] at h'; cases h'
  · rw [h] at h'; injection h' with h'; subst h'; exact ⟨rfl, hn⟩
set_option maxRecDepth 100000 in
set_option maxHeartbeats 4000000 in
theorem ROpen_ideal (c gx gt gs gm gl : Nat) (s : Int) (i at' : Nat) (v : Value) (Ms : List (SK × List UInt8)) (Mm Ml : List (MK × List UInt8)) (sv : Value) (secret : List UInt8) (e n : Int) (label : B32) (ct : List UInt8) (W : World) (hB : BOk c s i at' Ms Mm Ml)
    (hsl : secret.length ≤ 100000) (he : 0 ≤ e) (he' : e ≤ 9223372036854775807) (hn : 0 ≤ n) (hn' : n ≤ 9223372036854775807) (hcl : ct.length ≤ 100000) :
    TriR Try.prog 34 [.pointer (some ⟨gx, 0, none⟩), sv, .agg (bs label.l).toArray, En.v ⟨e, n, ct⟩] [(sv, secret)] (BXl gx gt gs gm gl s i at' v Ms Mm Ml) W fun u L =>
      OpTo (ropen Ms ((keysOf secret e).seal_.l, n, label.l ++ putN e, ct)) u ∧ L = BXl gx gt gs gm gl s i at' v Ms Mm Ml := by
  refine TriR.of fun F ⟨⟨hs, hns⟩, _⟩ H => ?_
  obtain ⟨sa, sc, rfl⟩ := hs.val
  have hll := label.len
  have OF := fun w (h : RB w (.slice sa secret.length sc) secret) => Of_any (.slice sa secret.length sc) secret e w h hsl ⟨by omega, he'⟩
  obtain ⟨k, hk⟩ : ∃ k, keysOf secret e = k := ⟨_, rfl⟩
  rw [hk] at OF ⊢
  have hkl := k.seal_.len
  have hpn : (label.l ++ putN e).length ≤ 100000 := by have := putN_length e; rw [List.length_append]; omega
  have BS := fun w => beside_any label e w ⟨by omega, he'⟩
  obtain ⟨ad, had⟩ : ∃ x, label.l ++ putN e = x := ⟨_, rfl⟩
  rw [had] at BS hpn ⊢
  have OI := fun av cv w => Open_ideal c gx gt gs gm gl s i at' v Ms Mm Ml k.seal_.l n av cv ad ct w hB hkl hn hn' hpn hcl
  have hval : ∀ b, mget Ms (k.seal_.l, n, ad, ct) = some b → b.length ≤ 100000 := fun b h => by
    have : b.length ≤ 3000 := hB.vs _ (mget_mem h)
    omega
  change Calls _ _ #[_, _, _, .agg (cat [[.int .i64 e], [.int .i64 n], [.string (str ct)]]).toArray] _ _
  refine q_enter Try.func34 rfl rfl ?_
  refine go_R H ?_; clear H; intro w H
  refine q_box H ?_; clear H; intro g6 w H
  refine go_R H ?_; clear H; intro w H
  refine q_box H ?_; clear H; intro g7 w H
  refine go_R H ?_; clear H; intro w H
  refine q_alloc H ?_; clear H; intro g8 w H
  refine go_R H ?_; clear H; intro w H
  replace H : St _ _ (BXl gx gt gs gm gl s i at' v Ms Mm Ml ++ [cells g6 (bs label.l) 26, cells g7 (cat [[.int .i64 e], [.int .i64 n], [.string (str ct)]]) 55, cells g8 (cat R.zero.ss) 42]) _ := H.sub (by repeat (first | exact Sub.nil | apply Sub.cons | exact Take.z | apply Take.s))
  replace H := H.drew
  refine r_start (Hold2 [(g6, .cells (bs label.l).toArray 26 (0, 0)), (g7, .cells (cat [[.int .i64 e], [.int .i64 n], [.string (str ct)]]).toArray 55 (0, 0))] [(.slice sa secret.length sc, secret)]) 21 rfl holdS ?_
  refine r_takeR 0 ?_; refine r_takeR 1 ?_; refine r_takeR 2 ?_; refine r_takeR 6 ?_; refine r_takeR 8 ?_; refine r_takeR 9 ?_; refine r_takeR 12 ?_; refine r_takeR 3 ?_; refine r_takeR 7 ?_; refine r_takeR 10 ?_; refine r_takeR 13 ?_
  refine r_two 4 14 rfl rfl ?_ ?_
  · refine q_call (OF _ (H.rb hs hns)) ?_; rintro _ w1 ⟨rfl, hNo⟩; replace H := H.no hNo; clear hNo; refine ⟨_, rfl, ?_⟩
    refine q_nil ?_; refine r_nextS ?_
    refine r_take 5 rfl rfl (fun w hS => x_partA (sealPart k)) ?_
    refine r_two 11 14 rfl rfl ?_ ?_
    · refine q_tri H (BS _) ?_; clear H; rintro va _ w rfl H
      refine q_nil ?_; refine r_nextS ?_
      refine r_op 14 rfl ?_
      refine q_bytes (sv := str ct) H ?_ (hsz := by rw [str_size]; omega); clear H; intro vb w H _
      rw [str_data] at H
      refine q_nil ?_; refine r_nextS ?_
      refine r_op 15 rfl ?_
      refine q_triR H (OI va vb _) ?_ (hr := Srcs.cons (Src.own (by (repeat (first | exact Take.z | apply Take.s)); done)) (Srcs.cons (Src.rd (by (repeat (first | exact Take.z | apply Take.s)); done)) Srcs.nil)); clear H; rintro _ _ w ⟨_, (⟨hg, rfl, rfl⟩ | ⟨b, vo, hg, rfl, rfl⟩), rfl⟩ H
      · refine q_nil ?_; refine r_nextS ?_
        refine r_takeR 16 ?_; refine r_takeR 17 ?_; refine r_takeR 18 ?_; refine r_takeR 19 ?_; refine r_takeR 20 ?_
        refine r_done ?_
        refine go_R H ?_; clear H; intro w H
        refine q_buildR R.zero.ss ?_
        refine go_R H ?_; clear H; intro w H
        exact ret2 rfl (rv_cat H) rv_tmp ⟨_, _, rfl, ⟨.inl ⟨by unfold ropen; rw [hg]; rfl, rfl⟩, rfl⟩, H.sub (by repeat (first | exact Sub.nil | apply Sub.cons | exact Take.z | apply Take.s))⟩
      · refine q_nil ?_; refine r_nextS ?_
        refine r_takeR 16 ?_; refine r_takeR 17 ?_; refine r_takeR 18 ?_; refine r_takeR 19 ?_; refine r_takeR 20 ?_
        refine r_done ?_
        obtain ⟨oa, oc, rfl⟩ := RB.val (H.rbR (v := vo) (by (repeat (first | exact Take.z | apply Take.s)); done))
        rcases hr : rget b with _ | r
        · refine go_R H ?_; clear H; intro w H
          refine q_call (Get_none (H.rbR (v := .slice oa b.length oc) (by (repeat (first | exact Take.z | apply Take.s)); done)) (hval b hg) hr) ?_; rintro _ w1 ⟨rfl, hNo⟩; replace H := H.no hNo; clear hNo; refine ⟨_, rfl, ?_⟩
          refine go_R H ?_; clear H; intro w H
          refine q_alloc H ?_; clear H; intro g12 w H
          refine go_R H ?_; clear H; intro w H
          refine q_buildR R.zero.ss ?_
          refine go_R H ?_; clear H; intro w H
          exact ret2 rfl (rv_cat H) rv_tmp ⟨_, _, rfl, ⟨.inl ⟨by unfold ropen; rw [hg]; exact hr, rfl⟩, rfl⟩, H.sub (by repeat (first | exact Sub.nil | apply Sub.cons | exact Take.z | apply Take.s))⟩
        · obtain ⟨ver, gone, val⟩ := r
          have GS := fun w (h : RB w (.slice oa b.length oc) b) => Get_some (W := w) h (hval b hg) hr
          change ∀ w, _ → Calls _ _ _ _ (fun e w' => e = .returned (.tuple #[.agg (cat [[.int .i64 ver], [.bool gone], [.string (str val)]]).toArray, .int .i64 0]) ∧ No w w') at GS
          refine go_R H ?_; clear H; intro w H
          refine q_call (GS _ (H.rbR (v := .slice oa b.length oc) (by (repeat (first | exact Take.z | apply Take.s)); done))) ?_; rintro _ w1 ⟨rfl, hNo⟩; replace H := H.no hNo; clear hNo; refine ⟨_, rfl, ?_⟩
          refine go_R H ?_; clear H; intro w H
          refine q_alloc H ?_; clear H; intro g12 w H
          refine go_R H ?_; clear H; intro w H
          exact ret2 rfl (rv_cat H) rv_tmp ⟨_, _, rfl, ⟨.inr ⟨⟨ver, gone, val⟩, by unfold ropen; rw [hg]; exact hr, rfl⟩, rfl⟩, H.sub (by repeat (first | exact Sub.nil | apply Sub.cons | exact Take.z | apply Take.s))⟩
    · refine q_bytes (sv := str ct) H ?_ (hsz := by rw [str_size]; omega); clear H; intro vb w H _
      rw [str_data] at H
      refine q_nil ?_; refine r_nextS ?_
      refine r_op 11 rfl ?_
      refine q_tri H (BS _) ?_; clear H; rintro va _ w rfl H
      refine q_nil ?_; refine r_nextS ?_
      refine r_op 15 rfl ?_
      refine q_triR H (OI va vb _) ?_ (hr := Srcs.cons (Src.own (by (repeat (first | exact Take.z | apply Take.s)); done)) (Srcs.cons (Src.rd (by (repeat (first | exact Take.z | apply Take.s)); done)) Srcs.nil)); clear H; rintro _ _ w ⟨_, (⟨hg, rfl, rfl⟩ | ⟨b, vo, hg, rfl, rfl⟩), rfl⟩ H
      · refine q_nil ?_; refine r_nextS ?_
        refine r_takeR 16 ?_; refine r_takeR 17 ?_; refine r_takeR 18 ?_; refine r_takeR 19 ?_; refine r_takeR 20 ?_
        refine r_done ?_
        refine go_R H ?_; clear H; intro w H
        refine q_buildR R.zero.ss ?_
        refine go_R H ?_; clear H; intro w H
        exact ret2 rfl (rv_cat H) rv_tmp ⟨_, _, rfl, ⟨.inl ⟨by unfold ropen; rw [hg]; rfl, rfl⟩, rfl⟩, H.sub (by repeat (first | exact Sub.nil | apply Sub.cons | exact Take.z | apply Take.s))⟩
      · refine q_nil ?_; refine r_nextS ?_
        refine r_takeR 16 ?_; refine r_takeR 17 ?_; refine r_takeR 18 ?_; refine r_takeR 19 ?_; refine r_takeR 20 ?_
        refine r_done ?_
        obtain ⟨oa, oc, rfl⟩ := RB.val (H.rbR (v := vo) (by (repeat (first | exact Take.z | apply Take.s)); done))
        rcases hr : rget b with _ | r
        · refine go_R H ?_; clear H; intro w H
          refine q_call (Get_none (H.rbR (v := .slice oa b.length oc) (by (repeat (first | exact Take.z | apply Take.s)); done)) (hval b hg) hr) ?_; rintro _ w1 ⟨rfl, hNo⟩; replace H := H.no hNo; clear hNo; refine ⟨_, rfl, ?_⟩
          refine go_R H ?_; clear H; intro w H
          refine q_alloc H ?_; clear H; intro g12 w H
          refine go_R H ?_; clear H; intro w H
          refine q_buildR R.zero.ss ?_
          refine go_R H ?_; clear H; intro w H
          exact ret2 rfl (rv_cat H) rv_tmp ⟨_, _, rfl, ⟨.inl ⟨by unfold ropen; rw [hg]; exact hr, rfl⟩, rfl⟩, H.sub (by repeat (first | exact Sub.nil | apply Sub.cons | exact Take.z | apply Take.s))⟩
        · obtain ⟨ver, gone, val⟩ := r
          have GS := fun w (h : RB w (.slice oa b.length oc) b) => Get_some (W := w) h (hval b hg) hr
          change ∀ w, _ → Calls _ _ _ _ (fun e w' => e = .returned (.tuple #[.agg (cat [[.int .i64 ver], [.bool gone], [.string (str val)]]).toArray, .int .i64 0]) ∧ No w w') at GS
          refine go_R H ?_; clear H; intro w H
          refine q_call (GS _ (H.rbR (v := .slice oa b.length oc) (by (repeat (first | exact Take.z | apply Take.s)); done))) ?_; rintro _ w1 ⟨rfl, hNo⟩; replace H := H.no hNo; clear hNo; refine ⟨_, rfl, ?_⟩
          refine go_R H ?_; clear H; intro w H
          refine q_alloc H ?_; clear H; intro g12 w H
          refine go_R H ?_; clear H; intro w H
          exact ret2 rfl (rv_cat H) rv_tmp ⟨_, _, rfl, ⟨.inr ⟨⟨ver, gone, val⟩, by unfold ropen; rw [hg]; exact hr, rfl⟩, rfl⟩, H.sub (by repeat (first | exact Sub.nil | apply Sub.cons | exact Take.z | apply Take.s))⟩
  · refine q_bytes (sv := str ct) H ?_ (hsz := by rw [str_size]; omega); clear H; intro vb w H _
    rw [str_data] at H
    refine q_nil ?_; refine r_nextS ?_
    refine r_op 4 rfl ?_
    refine q_call (OF _ (H.rb hs hns)) ?_; rintro _ w1 ⟨rfl, hNo⟩; replace H := H.no hNo; clear hNo; refine ⟨_, rfl, ?_⟩
    refine q_nil ?_; refine r_nextS ?_
    refine r_take 5 rfl rfl (fun w hS => x_partA (sealPart k)) ?_
    refine r_op 11 rfl ?_
    refine q_tri H (BS _) ?_; clear H; rintro va _ w rfl H
    refine q_nil ?_; refine r_nextS ?_
    refine r_op 15 rfl ?_
    refine q_triR H (OI va vb _) ?_ (hr := Srcs.cons (Src.own (by (repeat (first | exact Take.z | apply Take.s)); done)) (Srcs.cons (Src.rd (by (repeat (first | exact Take.z | apply Take.s)); done)) Srcs.nil)); clear H; rintro _ _ w ⟨_, (⟨hg, rfl, rfl⟩ | ⟨b, vo, hg, rfl, rfl⟩), rfl⟩ H
    · refine q_nil ?_; refine r_nextS ?_
      refine r_takeR 16 ?_; refine r_takeR 17 ?_; refine r_takeR 18 ?_; refine r_takeR 19 ?_; refine r_takeR 20 ?_
      refine r_done ?_
      refine go_R H ?_; clear H; intro w H
      refine q_buildR R.zero.ss ?_
      refine go_R H ?_; clear H; intro w H
      exact ret2 rfl (rv_cat H) rv_tmp ⟨_, _, rfl, ⟨.inl ⟨by unfold ropen; rw [hg]; rfl, rfl⟩, rfl⟩, H.sub (by repeat (first | exact Sub.nil | apply Sub.cons | exact Take.z | apply Take.s))⟩
    · refine q_nil ?_; refine r_nextS ?_
      refine r_takeR 16 ?_; refine r_takeR 17 ?_; refine r_takeR 18 ?_; refine r_takeR 19 ?_; refine r_takeR 20 ?_
      refine r_done ?_
      obtain ⟨oa, oc, rfl⟩ := RB.val (H.rbR (v := vo) (by (repeat (first | exact Take.z | apply Take.s)); done))
      rcases hr : rget b with _ | r
      · refine go_R H ?_; clear H; intro w H
        refine q_call (Get_none (H.rbR (v := .slice oa b.length oc) (by (repeat (first | exact Take.z | apply Take.s)); done)) (hval b hg) hr) ?_; rintro _ w1 ⟨rfl, hNo⟩; replace H := H.no hNo; clear hNo; refine ⟨_, rfl, ?_⟩
        refine go_R H ?_; clear H; intro w H
        refine q_alloc H ?_; clear H; intro g12 w H
        refine go_R H ?_; clear H; intro w H
        refine q_buildR R.zero.ss ?_
        refine go_R H ?_; clear H; intro w H
        exact ret2 rfl (rv_cat H) rv_tmp ⟨_, _, rfl, ⟨.inl ⟨by unfold ropen; rw [hg]; exact hr, rfl⟩, rfl⟩, H.sub (by repeat (first | exact Sub.nil | apply Sub.cons | exact Take.z | apply Take.s))⟩
      · obtain ⟨ver, gone, val⟩ := r
        have GS := fun w (h : RB w (.slice oa b.length oc) b) => Get_some (W := w) h (hval b hg) hr
        change ∀ w, _ → Calls _ _ _ _ (fun e w' => e = .returned (.tuple #[.agg (cat [[.int .i64 ver], [.bool gone], [.string (str val)]]).toArray, .int .i64 0]) ∧ No w w') at GS
        refine go_R H ?_; clear H; intro w H
        refine q_call (GS _ (H.rbR (v := .slice oa b.length oc) (by (repeat (first | exact Take.z | apply Take.s)); done))) ?_; rintro _ w1 ⟨rfl, hNo⟩; replace H := H.no hNo; clear hNo; refine ⟨_, rfl, ?_⟩
        refine go_R H ?_; clear H; intro w H
        refine q_alloc H ?_; clear H; intro g12 w H
        refine go_R H ?_; clear H; intro w H
        exact ret2 rfl (rv_cat H) rv_tmp ⟨_, _, rfl, ⟨.inr ⟨⟨ver, gone, val⟩, by unfold ropen; rw [hg]; exact hr, rfl⟩, rfl⟩, H.sub (by repeat (first | exact Sub.nil | apply Sub.cons | exact Take.z | apply Take.s))⟩
end Go.Proofs.Ytbdkicmdidcdcaa
