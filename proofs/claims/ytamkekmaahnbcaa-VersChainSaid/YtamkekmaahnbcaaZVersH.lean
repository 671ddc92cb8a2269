/-
  The document's Bytes; VersKeys, walked.
-/
import Derived.Test.YtamkekmaahnbcaaZVersG
import Derived.Test.YtamkekmaahnbcaaZQ
import Derived.Test.YtamkekmaahnbcaaZI
namespace Go.Proofs.Ytamkekmaahnbcaa
open Go.RowKit

set_option maxRecDepth 100000 in
set_option maxHeartbeats 2000000 in
theorem RBytes_any (v : V) (w : World) (h : v.In) : Tri Try.prog 30 [v.val] [] w fun u L => L = [bsl u (vbytes v)] := by
  refine Tri.pure fun H => ?_
  have p1 := putN_length v.client; have p2 := putN_length v.n; have p3 := putN_length v.count; have p4 := putN_length v.epoch
  have p5 := putN_length v.vec.a; have p6 := putN_length v.vec.b; have p7 := putN_length v.vec.c; have p8 := putN_length v.vec.d
  have q1 := v.prev.len; have q2 := v.root.len
  refine q_enter Try.func30 rfl rfl ?_
  refine go_R H ?_; clear H; intro w H
  refine q_box H ?_; clear H; intro g w H
  refine go_R H ?_; clear H; intro w H
  replace H := H.drew
  refine r_start (Hold [(g, .cells (cat v.ss).toArray 55 (0, 0))]) 12 rfl holdS ?_
  refine r_takeR 0 ?_; refine r_takeR 3 ?_; refine r_takeR 7 ?_; refine r_takeR 1 ?_; refine r_takeR 4 ?_; refine r_takeR 8 ?_
  refine r_op 2 rfl ?_
  refine q_tri H (RPut_tri v.client _ h.client.1 h.client.2) ?_; clear H; rintro v1 _ w rfl H
  refine q_nil ?_; refine r_nextS ?_
  refine r_op 5 rfl ?_
  refine q_tri H (RPut_tri v.n _ h.n.1 h.n.2) ?_; clear H; rintro v2 _ w rfl H
  refine q_nil ?_; refine r_nextS ?_
  refine r_op 6 rfl ?_
  refine q_appR (v := v1) H (H.rbB (v := v2) (by (repeat (first | exact Take.z | apply Take.s)); done)) ?_; clear H; intro v3 w H _
  refine q_nil ?_; refine r_nextS ?_
  refine r_op 9 rfl ?_
  refine q_tri H (RPut_tri v.count _ h.count.1 h.count.2) ?_; clear H; rintro v4 _ w rfl H
  refine q_nil ?_; refine r_nextS ?_
  refine r_op 10 rfl ?_
  refine q_appR (v := v3) H (H.rbB (v := v4) (by (repeat (first | exact Take.z | apply Take.s)); done)) ?_ (h63 := by simp only [List.length_append]; omega); clear H; intro v5 w H _
  refine q_nil ?_; refine r_nextS ?_
  refine r_takeR 11 ?_
  refine r_done ?_
  refine go_R H ?_; clear H; intro w H
  have l3 : (putN v.client ++ putN v.n ++ putN v.count).length ≤ 60 := by simp only [List.length_append]; omega
  generalize h3 : putN v.client ++ putN v.n ++ putN v.count = b3 at *
  replace H : St _ _ [bsl v5 b3, cells g (cat v.ss) 55] _ := H.sub (by repeat (first | exact Sub.nil | apply Sub.cons | exact Take.z | apply Take.s))
  replace H := H.drew
  refine r_start (Hold [(g, .cells (cat v.ss).toArray 55 (0, 0))]) 12 rfl holdS ?_
  refine r_takeR 0 ?_; refine r_takeR 1 ?_; refine r_takeR 4 ?_; refine r_takeR 7 ?_; refine r_takeR 2 ?_; refine r_takeR 5 ?_; refine r_takeR 8 ?_
  refine r_op 3 rfl ?_
  refine q_appR H (H.rbP (g := g) (off := 3) (k := 32) (i := 3) (by (repeat (first | exact Take.z | apply Take.s)); done) ⟨rfl, rfl⟩ rfl (by omega)) ?_; clear H; intro v6 w H _
  refine q_nil ?_; refine r_nextS ?_
  refine r_op 6 rfl ?_
  refine q_appR H (H.rbP (g := g) (off := 35) (k := 32) (i := 4) (by (repeat (first | exact Take.z | apply Take.s)); done) ⟨rfl, rfl⟩ rfl (by omega)) ?_; clear H; intro v7 w H _
  refine q_nil ?_; refine r_nextS ?_
  refine r_op 9 rfl ?_
  refine q_tri H (RPut_tri v.epoch _ h.epoch.1 h.epoch.2) ?_; clear H; rintro v8 _ w rfl H
  refine q_nil ?_; refine r_nextS ?_
  refine r_op 10 rfl ?_
  have l5 : (b3 ++ v.prev.l ++ v.root.l).length ≤ 130 := by simp only [List.length_append]; omega
  generalize h5 : b3 ++ v.prev.l ++ v.root.l = b5 at *
  refine q_appR (v := v7) H (H.rbB (v := v8) (by (repeat (first | exact Take.z | apply Take.s)); done)) ?_; clear H; intro v9 w H _
  refine q_nil ?_; refine r_nextS ?_
  refine r_takeR 11 ?_
  refine r_done ?_
  refine go_R H ?_; clear H; intro w H
  have l6 : (b5 ++ putN v.epoch).length ≤ 140 := by simp only [List.length_append]; omega
  generalize h6 : b5 ++ putN v.epoch = b6 at *
  replace H : St _ _ [bsl v9 b6, cells g (cat v.ss) 55] _ := H.sub (by repeat (first | exact Sub.nil | apply Sub.cons | exact Take.z | apply Take.s))
  refine q_rounds 5 ?_
  refine go_R H ?_; clear H; intro w H
  refine q_loadRI 6 0 H ?_
  refine q_tri H (RPut_tri v.vec.a _ h.a.1 h.a.2) ?_; clear H; rintro w1 _ w rfl H
  refine q_appR (v := v9) H (H.rbB (v := w1) (by (repeat (first | exact Take.z | apply Take.s)); done)) ?_; clear H; intro x1 w H _
  replace H : St _ _ [bsl x1 (b6 ++ putN v.vec.a), cells g (cat v.ss) 55] _ := H.sub (by repeat (first | exact Sub.nil | apply Sub.cons | exact Take.z | apply Take.s))
  refine go_R H ?_; clear H; intro w H
  refine q_loadRI 6 1 H ?_
  refine q_tri H (RPut_tri v.vec.b _ h.b.1 h.b.2) ?_; clear H; rintro w2 _ w rfl H
  refine q_appR (v := x1) H (H.rbB (v := w2) (by (repeat (first | exact Take.z | apply Take.s)); done)) ?_ (h63 := by simp only [List.length_append]; omega); clear H; intro x2 w H _
  replace H : St _ _ [bsl x2 (b6 ++ putN v.vec.a ++ putN v.vec.b), cells g (cat v.ss) 55] _ := H.sub (by repeat (first | exact Sub.nil | apply Sub.cons | exact Take.z | apply Take.s))
  refine go_R H ?_; clear H; intro w H
  refine q_loadRI 6 2 H ?_
  refine q_tri H (RPut_tri v.vec.c _ h.c.1 h.c.2) ?_; clear H; rintro w3 _ w rfl H
  refine q_appR (v := x2) H (H.rbB (v := w3) (by (repeat (first | exact Take.z | apply Take.s)); done)) ?_ (h63 := by simp only [List.length_append]; omega); clear H; intro x3 w H _
  replace H : St _ _ [bsl x3 (b6 ++ putN v.vec.a ++ putN v.vec.b ++ putN v.vec.c), cells g (cat v.ss) 55] _ := H.sub (by repeat (first | exact Sub.nil | apply Sub.cons | exact Take.z | apply Take.s))
  refine go_R H ?_; clear H; intro w H
  refine q_loadRI 6 3 H ?_
  refine q_tri H (RPut_tri v.vec.d _ h.d.1 h.d.2) ?_; clear H; rintro w4 _ w rfl H
  refine q_appR (v := x3) H (H.rbB (v := w4) (by (repeat (first | exact Take.z | apply Take.s)); done)) ?_ (h63 := by simp only [List.length_append]; omega); clear H; intro x4 w H _
  refine go_R H ?_; clear H; intro w H
  refine ret1 rfl rv_tmp ⟨_, _, rfl, rfl, ?_⟩
  unfold vbytes
  rw [h3, h5, h6]
  exact H.sub (by repeat (first | exact Sub.nil | apply Sub.cons | exact Take.z | apply Take.s))
theorem kk_inj {a b : UInt8} (h : (kk a).l = (kk b).l) : a = b := by
  have : (kk a).l[0]? = (kk b).l[0]? := by rw [h]
  simpa [kk] using this
theorem vL_in {n : Int} (h : In64 n) : (vL 1 n 1 0 0).In := by
  refine ⟨?_, h, ?_, ?_, ?_, ?_, ?_, ?_⟩ <;> (unfold In64 vL; dsimp only; omega)
theorem Tri.weaken {P : Program} {f : FuncId} {args : List Value} {pre : List Res} {w : World} {post post' : Value → List Res → Prop} (h : Tri P f args pre w post) (k : ∀ v L, post v L → post' v L) : Tri P f args pre w post' := fun F hF =>
  (h F hF).mono fun _ _ ⟨v, L, a, b, c⟩ => ⟨v, L, a, k v L b, c⟩
/-- What the book says behind two marks by one key. -/
theorem book2 (a : UInt8) (xn xm T1 : List UInt8) :
    (∀ k : List UInt8, mget (bookOf 6 32 [(((kk a).l, xn), T1)] ((kk a).l, xm)).2.2 (k, xn) = some T1 ↔ k = (kk a).l) ∧
    mget (bookOf 6 32 [(((kk a).l, xn), T1)] ((kk a).l, xm)).2.2 ((kk a).l, xm) = some (bookOf 6 32 [(((kk a).l, xn), T1)] ((kk a).l, xm)).1 ∧
    (xn = xm → T1 = (bookOf 6 32 [(((kk a).l, xn), T1)] ((kk a).l, xm)).1) := by
  refine ⟨fun k => ?_, ?_, fun e => ?_⟩
  · unfold bookOf
    by_cases e : xm = xn
    · subst e
      rw [show mget [(((kk a).l, xm), T1)] ((kk a).l, xm) = some T1 from if_pos rfl]
      dsimp only
      unfold mget
      by_cases ek : (kk a).l = k
      · rw [if_pos (by rw [ek])]; simp [ek]
      · rw [if_neg (fun x => ek (congrArg Prod.fst x))]
        exact ⟨nofun, fun x => (ek x.symm).elim⟩
    · rw [show mget [(((kk a).l, xn), T1)] ((kk a).l, xm) = none from if_neg (fun x => e (congrArg Prod.snd x).symm)]
      dsimp only
      rw [mget_mput, if_neg (fun x => e (congrArg Prod.snd x).symm)]
      unfold mget
      by_cases ek : (kk a).l = k
      · rw [if_pos (by rw [ek])]; simp [ek]
      · rw [if_neg (fun x => ek (congrArg Prod.fst x))]
        exact ⟨nofun, fun x => (ek x.symm).elim⟩
  · unfold bookOf
    cases hg : mget [(((kk a).l, xn), T1)] ((kk a).l, xm) with
    | some h => exact hg
    | none => rw [mget_mput, if_pos rfl]
  · unfold bookOf
    rw [show mget [(((kk a).l, xn), T1)] ((kk a).l, xm) = some T1 from if_pos (by rw [e])]
set_option maxRecDepth 100000 in
set_option maxHeartbeats 4000000 in
theorem VersKeys_walk (a b : UInt8) (n m : Int) (W : World) (hn : In64 n) (hm : In64 m) : Calls Try.prog 11 #[.int .u8 (by8 a), .int .u8 (by8 b), .int .i64 n, .int .i64 m] W fun e w' => e = .returned (.bool true) ∧ No W w' := by
  have H := St.nil (fun _ => False) W
  have B0 := BOk.new 6 (by omega)
  have vni := vL_in hn
  have vmi := vL_in hm
  obtain ⟨xn, hxn⟩ : ∃ x, vbytes (vL 1 n 1 0 0) = x := ⟨_, rfl⟩
  obtain ⟨xm, hxm⟩ : ∃ x, vbytes (vL 1 m 1 0 0) = x := ⟨_, rfl⟩
  have S1 : ∀ gx gt gs gm gl w, Tri Try.prog 29 [.pointer (some ⟨gx, 0, none⟩), .agg (bs (kk a).l).toArray, (vL 1 n 1 0 0).val] (BXl gx gt gs gm gl 6 0 0 (.slice none 0 0) [] [] []) w fun u L =>
      ∃ i' v' x, BOk 1 6 i' 32 [] [(((kk a).l, xn), (V.tag x).l)] [] ∧ x.In ∧ vbytes x = xn ∧ u = x.val ∧ L = BXl gx gt gs gm gl 6 i' 32 v' [] [(((kk a).l, xn), x.tag.l)] [] := fun gx gt gs gm gl w =>
    (Sign_ideal 0 gx gt gs gm gl 6 0 0 (.slice none 0 0) [] [] [] (kk a) (vL 1 n 1 0 0) w B0 (by omega) vni).weaken fun u L ⟨i', v', T, B, hT, hu, hL⟩ => by
      rw [hxn] at B hL hT
      have hbk1 : bookOf 6 0 [] ((kk a).l, xn) = (tp 6 0 32, 32, [(((kk a).l, xn), tp 6 0 32)]) := rfl
      rw [hbk1] at B hL hT
      dsimp only at B hL hT
      rw [← hT] at B hL
      exact ⟨i', v', (vL 1 n 1 0 0).tagged T, B, V.tagged_in vni _, hxn, hu, hL⟩
  have S2 : ∀ gx gt gs gm gl i1 v1 (v : V) w, BOk 1 6 i1 32 [] [(((kk a).l, xn), v.tag.l)] [] → Tri Try.prog 29 [.pointer (some ⟨gx, 0, none⟩), .agg (bs (kk a).l).toArray, (vL 1 m 1 0 0).val] (BXl gx gt gs gm gl 6 i1 32 v1 [] [(((kk a).l, xn), v.tag.l)] []) w fun u L =>
      ∃ i' at2 v' x M2, BOk 2 6 i' at2 [] M2 [] ∧ V.In x ∧ vbytes x = xm ∧ u = x.val ∧ L = BXl gx gt gs gm gl 6 i' at2 v' [] M2 [] ∧ (∀ k : List UInt8, mget M2 (k, xn) = some v.tag.l ↔ k = (kk a).l) ∧ mget M2 ((kk a).l, xm) = some x.tag.l ∧ (xn = xm → v.tag.l = x.tag.l) := fun gx gt gs gm gl i1 v1 v w B1 =>
    (Sign_ideal 1 gx gt gs gm gl 6 i1 32 v1 [] [(((kk a).l, xn), v.tag.l)] [] (kk a) (vL 1 m 1 0 0) w B1 (by omega) vmi).weaken fun u L ⟨i', v', T, B, hT, hu, hL⟩ => by
      rw [hxm] at B hL hT
      obtain ⟨g1, g2, g3⟩ := book2 a xn xm v.tag.l
      rw [← hT] at g2 g3
      exact ⟨i', _, v', (vL 1 m 1 0 0).tagged T, _, B, V.tagged_in vmi _, hxm, hu, hL, g1, g2, g3⟩
  refine q_enter Try.func11 rfl rfl ?_
  refine go_R H ?_; clear H; intro w H
  refine q_call (begun14_any _) ?_; rintro _ w1 ⟨rfl, hNo⟩; replace H := H.no hNo; clear hNo; refine ⟨_, rfl, ?_⟩
  refine go_R H ?_; clear H; intro w H
  refine q_tri H (TNew_any 6 _) ?_; clear H; rintro _ _ w ⟨gt, rfl, rfl⟩ H
  refine q_tri H (BNew_ideal ⟨gt, 0, none⟩ _) ?_; clear H; rintro _ _ w ⟨gx, gs, gm, gl, rfl, rfl⟩ H
  replace H : St _ _ (BXl gx gt gs gm gl 6 0 0 (.slice none 0 0) [] [] []) _ := H.sub (by repeat (first | exact Sub.nil | apply Sub.cons | exact Take.z | apply Take.s))
  refine go_R H ?_; clear H; intro w H
  refine q_buildB1 (b := a) ?_
  change LW _ _ _ _ _ (upd _ _ (.agg (bs (kk a).l).toArray)) _
  refine go_R H ?_; clear H; intro w H
  refine q_buildR (vL 1 n 1 0 0).ss ?_
  refine q_tri H (S1 gx gt gs gm gl _) ?_; clear H S1; rintro _ _ w ⟨i1, v1, v, B1, hvi, hvn, rfl, rfl⟩ H
  refine go_R H ?_; clear H; intro w H
  refine q_alloc H ?_; clear H; intro g1 w H
  refine go_R H ?_; clear H; intro w H
  refine q_buildB1 (b := a) ?_
  change LW _ _ _ _ _ (upd _ _ (.agg (bs (kk a).l).toArray)) _
  refine go_R H ?_; clear H; intro w H
  refine q_buildR (vL 1 m 1 0 0).ss ?_
  refine q_tri H (S2 gx gt gs gm gl i1 v1 v _ B1) ?_; clear H S2; rintro _ _ w ⟨i2, at2, v2, u, M2, B2, hwi, hvm, rfl, rfl, G1, G2, G3⟩ H
  have J1 := fun k w => VIs_ideal 2 gx gt gs gm gl 6 i2 at2 v2 [] M2 [] k v w B2 hvi
  have J2 := fun w => VIs_ideal 2 gx gt gs gm gl 6 i2 at2 v2 [] M2 [] (kk a) u w B2 hwi
  rw [hvn] at J1
  rw [hvm, decide_eq_true G2] at J2
  simp only [G1] at J1
  refine go_R H ?_; clear H; intro w H
  refine q_alloc H ?_; clear H; intro g2 w H
  refine go_R H ?_; clear H; intro w H
  replace H := H.drew
  refine r_start (Hold [(g1, .cells (cat v.ss).toArray 55 (0, 0)), (g2, .cells (cat u.ss).toArray 55 (0, 0))]) 8 rfl holdS ?_
  have hvl := vbytes_length v
  have hul := vbytes_length u
  have RB1 := fun w => RBytes_any v w hvi
  have RB2 := fun w => RBytes_any u w hwi
  rw [hvn] at RB1
  rw [hvm] at RB2
  refine r_takeR 0 ?_; refine r_takeR 3 ?_
  refine r_op 1 rfl ?_
  refine q_tri H (RB1 _) ?_; clear H; rintro s1 _ w rfl H
  refine q_nil ?_; refine r_nextS ?_
  have J := J1 (kk b)
  have hS : ∃ r : Bool, (r = true ↔ a = b) ∧ decide ((kk b).l = (kk a).l) = r := ⟨_, by simp only [decide_eq_true_eq]; exact ⟨fun h => (kk_inj h).symm, fun h => by rw [h]⟩, rfl⟩
  obtain ⟨r, hr, hd⟩ := hS
  rw [hd] at J
  by_cases e : xn = xm
  · have hT := G3 e
    by_cases hab : a = b
    · have h8 : by8 a = by8 b := by rw [hab]
      obtain rfl := hr.2 hab
      refine r_two 2 4 rfl rfl ?_ ?_
      · refine q_str (H.rbB (v := s1) (by (repeat (first | exact Take.z | apply Take.s)); done)) ?_
        refine q_nil ?_; refine r_nextS ?_
        refine r_op 4 rfl ?_
        refine q_tri H (RB2 _) ?_; clear H; rintro s2 _ w rfl H
        refine q_nil ?_; refine r_nextS ?_
        refine r_op 5 rfl ?_
        refine q_str (H.rbB (v := s2) (by (repeat (first | exact Take.z | apply Take.s)); done)) ?_
        refine q_nil ?_; refine r_nextS ?_
        refine r_takeR 6 ?_; refine r_takeR 7 ?_
        refine r_done ?_
        refine go_R H ?_; clear H; intro w H
        refine q_buildB1 (b := b) ?_
        change LW _ _ _ _ _ (upd _ _ (.agg (bs (kk b).l).toArray)) _
        refine go_R H ?_; clear H; intro w H
        refine q_tri H (J _) ?_; clear H; rintro _ _ w ⟨rfl, rfl⟩ H
        refine go_R H ?_; clear H; intro w H
        refine q_beq true Try.underlying4 ?_
        refine go_R H ?_; clear H; intro w H
        refine q_weq_t (Kv_bytes v.tag.l v.tag.len) (Kv_bytes u.tag.l u.tag.len) (by rw [hT]) ?_
        refine go_R H ?_; clear H; intro w H
        refine q_buildB1 (b := a) ?_
        change LW _ _ _ _ _ (upd _ _ (.agg (bs (kk a).l).toArray)) _
        refine go_R H ?_; clear H; intro w H
        refine q_tri H (J2 _) ?_; clear H; rintro _ _ w ⟨rfl, rfl⟩ H
        refine go_R H ?_; clear H; intro w H
        exact ret1 rfl rv_tmp ⟨rfl, H.fr⟩
      · refine q_tri H (RB2 _) ?_; clear H; rintro s2 _ w rfl H
        refine q_nil ?_; refine r_nextS ?_
        refine r_two 2 5 rfl rfl ?_ ?_
        · refine q_str (H.rbB (v := s1) (by (repeat (first | exact Take.z | apply Take.s)); done)) ?_
          refine q_nil ?_; refine r_nextS ?_
          refine r_op 5 rfl ?_
          refine q_str (H.rbB (v := s2) (by (repeat (first | exact Take.z | apply Take.s)); done)) ?_
          refine q_nil ?_; refine r_nextS ?_
          refine r_takeR 6 ?_; refine r_takeR 7 ?_
          refine r_done ?_
          refine go_R H ?_; clear H; intro w H
          refine q_buildB1 (b := b) ?_
          change LW _ _ _ _ _ (upd _ _ (.agg (bs (kk b).l).toArray)) _
          refine go_R H ?_; clear H; intro w H
          refine q_tri H (J _) ?_; clear H; rintro _ _ w ⟨rfl, rfl⟩ H
          refine go_R H ?_; clear H; intro w H
          refine q_beq true Try.underlying4 ?_
          refine go_R H ?_; clear H; intro w H
          refine q_weq_t (Kv_bytes v.tag.l v.tag.len) (Kv_bytes u.tag.l u.tag.len) (by rw [hT]) ?_
          refine go_R H ?_; clear H; intro w H
          refine q_buildB1 (b := a) ?_
          change LW _ _ _ _ _ (upd _ _ (.agg (bs (kk a).l).toArray)) _
          refine go_R H ?_; clear H; intro w H
          refine q_tri H (J2 _) ?_; clear H; rintro _ _ w ⟨rfl, rfl⟩ H
          refine go_R H ?_; clear H; intro w H
          exact ret1 rfl rv_tmp ⟨rfl, H.fr⟩
        · refine q_str (H.rbB (v := s2) (by (repeat (first | exact Take.z | apply Take.s)); done)) ?_
          refine q_nil ?_; refine r_nextS ?_
          refine r_op 2 rfl ?_
          refine q_str (H.rbB (v := s1) (by (repeat (first | exact Take.z | apply Take.s)); done)) ?_
          refine q_nil ?_; refine r_nextS ?_
          refine r_takeR 6 ?_; refine r_takeR 7 ?_
          refine r_done ?_
          refine go_R H ?_; clear H; intro w H
          refine q_buildB1 (b := b) ?_
          change LW _ _ _ _ _ (upd _ _ (.agg (bs (kk b).l).toArray)) _
          refine go_R H ?_; clear H; intro w H
          refine q_tri H (J _) ?_; clear H; rintro _ _ w ⟨rfl, rfl⟩ H
          refine go_R H ?_; clear H; intro w H
          refine q_beq true Try.underlying4 ?_
          refine go_R H ?_; clear H; intro w H
          refine q_weq_t (Kv_bytes v.tag.l v.tag.len) (Kv_bytes u.tag.l u.tag.len) (by rw [hT]) ?_
          refine go_R H ?_; clear H; intro w H
          refine q_buildB1 (b := a) ?_
          change LW _ _ _ _ _ (upd _ _ (.agg (bs (kk a).l).toArray)) _
          refine go_R H ?_; clear H; intro w H
          refine q_tri H (J2 _) ?_; clear H; rintro _ _ w ⟨rfl, rfl⟩ H
          refine go_R H ?_; clear H; intro w H
          exact ret1 rfl rv_tmp ⟨rfl, H.fr⟩
    · have h8 : by8 a ≠ by8 b := fun h => hab (by8_inj h)
      obtain rfl : r = false := by cases r with | false => rfl | true => exact (hab (hr.1 rfl)).elim
      refine r_two 2 4 rfl rfl ?_ ?_
      · refine q_str (H.rbB (v := s1) (by (repeat (first | exact Take.z | apply Take.s)); done)) ?_
        refine q_nil ?_; refine r_nextS ?_
        refine r_op 4 rfl ?_
        refine q_tri H (RB2 _) ?_; clear H; rintro s2 _ w rfl H
        refine q_nil ?_; refine r_nextS ?_
        refine r_op 5 rfl ?_
        refine q_str (H.rbB (v := s2) (by (repeat (first | exact Take.z | apply Take.s)); done)) ?_
        refine q_nil ?_; refine r_nextS ?_
        refine r_takeR 6 ?_; refine r_takeR 7 ?_
        refine r_done ?_
        refine go_R H ?_; clear H; intro w H
        refine q_buildB1 (b := b) ?_
        change LW _ _ _ _ _ (upd _ _ (.agg (bs (kk b).l).toArray)) _
        refine go_R H ?_; clear H; intro w H
        refine q_tri H (J _) ?_; clear H; rintro _ _ w ⟨rfl, rfl⟩ H
        refine go_R H ?_; clear H; intro w H
        refine q_beq true Try.underlying4 ?_
        refine go_R H ?_; clear H; intro w H
        refine q_weq_t (Kv_bytes v.tag.l v.tag.len) (Kv_bytes u.tag.l u.tag.len) (by rw [hT]) ?_
        refine go_R H ?_; clear H; intro w H
        refine q_buildB1 (b := a) ?_
        change LW _ _ _ _ _ (upd _ _ (.agg (bs (kk a).l).toArray)) _
        refine go_R H ?_; clear H; intro w H
        refine q_tri H (J2 _) ?_; clear H; rintro _ _ w ⟨rfl, rfl⟩ H
        refine go_R H ?_; clear H; intro w H
        exact ret1 rfl rv_tmp ⟨rfl, H.fr⟩
      · refine q_tri H (RB2 _) ?_; clear H; rintro s2 _ w rfl H
        refine q_nil ?_; refine r_nextS ?_
        refine r_two 2 5 rfl rfl ?_ ?_
        · refine q_str (H.rbB (v := s1) (by (repeat (first | exact Take.z | apply Take.s)); done)) ?_
          refine q_nil ?_; refine r_nextS ?_
          refine r_op 5 rfl ?_
          refine q_str (H.rbB (v := s2) (by (repeat (first | exact Take.z | apply Take.s)); done)) ?_
          refine q_nil ?_; refine r_nextS ?_
          refine r_takeR 6 ?_; refine r_takeR 7 ?_
          refine r_done ?_
          refine go_R H ?_; clear H; intro w H
          refine q_buildB1 (b := b) ?_
          change LW _ _ _ _ _ (upd _ _ (.agg (bs (kk b).l).toArray)) _
          refine go_R H ?_; clear H; intro w H
          refine q_tri H (J _) ?_; clear H; rintro _ _ w ⟨rfl, rfl⟩ H
          refine go_R H ?_; clear H; intro w H
          refine q_beq true Try.underlying4 ?_
          refine go_R H ?_; clear H; intro w H
          refine q_weq_t (Kv_bytes v.tag.l v.tag.len) (Kv_bytes u.tag.l u.tag.len) (by rw [hT]) ?_
          refine go_R H ?_; clear H; intro w H
          refine q_buildB1 (b := a) ?_
          change LW _ _ _ _ _ (upd _ _ (.agg (bs (kk a).l).toArray)) _
          refine go_R H ?_; clear H; intro w H
          refine q_tri H (J2 _) ?_; clear H; rintro _ _ w ⟨rfl, rfl⟩ H
          refine go_R H ?_; clear H; intro w H
          exact ret1 rfl rv_tmp ⟨rfl, H.fr⟩
        · refine q_str (H.rbB (v := s2) (by (repeat (first | exact Take.z | apply Take.s)); done)) ?_
          refine q_nil ?_; refine r_nextS ?_
          refine r_op 2 rfl ?_
          refine q_str (H.rbB (v := s1) (by (repeat (first | exact Take.z | apply Take.s)); done)) ?_
          refine q_nil ?_; refine r_nextS ?_
          refine r_takeR 6 ?_; refine r_takeR 7 ?_
          refine r_done ?_
          refine go_R H ?_; clear H; intro w H
          refine q_buildB1 (b := b) ?_
          change LW _ _ _ _ _ (upd _ _ (.agg (bs (kk b).l).toArray)) _
          refine go_R H ?_; clear H; intro w H
          refine q_tri H (J _) ?_; clear H; rintro _ _ w ⟨rfl, rfl⟩ H
          refine go_R H ?_; clear H; intro w H
          refine q_beq true Try.underlying4 ?_
          refine go_R H ?_; clear H; intro w H
          refine q_weq_t (Kv_bytes v.tag.l v.tag.len) (Kv_bytes u.tag.l u.tag.len) (by rw [hT]) ?_
          refine go_R H ?_; clear H; intro w H
          refine q_buildB1 (b := a) ?_
          change LW _ _ _ _ _ (upd _ _ (.agg (bs (kk a).l).toArray)) _
          refine go_R H ?_; clear H; intro w H
          refine q_tri H (J2 _) ?_; clear H; rintro _ _ w ⟨rfl, rfl⟩ H
          refine go_R H ?_; clear H; intro w H
          exact ret1 rfl rv_tmp ⟨rfl, H.fr⟩
  · by_cases hab : a = b
    · have h8 : by8 a = by8 b := by rw [hab]
      obtain rfl := hr.2 hab
      refine r_two 2 4 rfl rfl ?_ ?_
      · refine q_str (H.rbB (v := s1) (by (repeat (first | exact Take.z | apply Take.s)); done)) ?_
        refine q_nil ?_; refine r_nextS ?_
        refine r_op 4 rfl ?_
        refine q_tri H (RB2 _) ?_; clear H; rintro s2 _ w rfl H
        refine q_nil ?_; refine r_nextS ?_
        refine r_op 5 rfl ?_
        refine q_str (H.rbB (v := s2) (by (repeat (first | exact Take.z | apply Take.s)); done)) ?_
        refine q_nil ?_; refine r_nextS ?_
        refine r_takeR 6 ?_; refine r_takeR 7 ?_
        refine r_done ?_
        refine go_R H ?_; clear H; intro w H
        refine q_buildB1 (b := b) ?_
        change LW _ _ _ _ _ (upd _ _ (.agg (bs (kk b).l).toArray)) _
        refine go_R H ?_; clear H; intro w H
        refine q_tri H (J _) ?_; clear H; rintro _ _ w ⟨rfl, rfl⟩ H
        refine go_R H ?_; clear H; intro w H
        refine q_beq true Try.underlying4 ?_
        refine go_R H ?_; clear H; intro w H
        refine q_buildB1 (b := a) ?_
        change LW _ _ _ _ _ (upd _ _ (.agg (bs (kk a).l).toArray)) _
        refine go_R H ?_; clear H; intro w H
        refine q_tri H (J2 _) ?_; clear H; rintro _ _ w ⟨rfl, rfl⟩ H
        refine go_R H ?_; clear H; intro w H
        exact ret1 rfl rv_tmp ⟨rfl, H.fr⟩
      · refine q_tri H (RB2 _) ?_; clear H; rintro s2 _ w rfl H
        refine q_nil ?_; refine r_nextS ?_
        refine r_two 2 5 rfl rfl ?_ ?_
        · refine q_str (H.rbB (v := s1) (by (repeat (first | exact Take.z | apply Take.s)); done)) ?_
          refine q_nil ?_; refine r_nextS ?_
          refine r_op 5 rfl ?_
          refine q_str (H.rbB (v := s2) (by (repeat (first | exact Take.z | apply Take.s)); done)) ?_
          refine q_nil ?_; refine r_nextS ?_
          refine r_takeR 6 ?_; refine r_takeR 7 ?_
          refine r_done ?_
          refine go_R H ?_; clear H; intro w H
          refine q_buildB1 (b := b) ?_
          change LW _ _ _ _ _ (upd _ _ (.agg (bs (kk b).l).toArray)) _
          refine go_R H ?_; clear H; intro w H
          refine q_tri H (J _) ?_; clear H; rintro _ _ w ⟨rfl, rfl⟩ H
          refine go_R H ?_; clear H; intro w H
          refine q_beq true Try.underlying4 ?_
          refine go_R H ?_; clear H; intro w H
          refine q_buildB1 (b := a) ?_
          change LW _ _ _ _ _ (upd _ _ (.agg (bs (kk a).l).toArray)) _
          refine go_R H ?_; clear H; intro w H
          refine q_tri H (J2 _) ?_; clear H; rintro _ _ w ⟨rfl, rfl⟩ H
          refine go_R H ?_; clear H; intro w H
          exact ret1 rfl rv_tmp ⟨rfl, H.fr⟩
        · refine q_str (H.rbB (v := s2) (by (repeat (first | exact Take.z | apply Take.s)); done)) ?_
          refine q_nil ?_; refine r_nextS ?_
          refine r_op 2 rfl ?_
          refine q_str (H.rbB (v := s1) (by (repeat (first | exact Take.z | apply Take.s)); done)) ?_
          refine q_nil ?_; refine r_nextS ?_
          refine r_takeR 6 ?_; refine r_takeR 7 ?_
          refine r_done ?_
          refine go_R H ?_; clear H; intro w H
          refine q_buildB1 (b := b) ?_
          change LW _ _ _ _ _ (upd _ _ (.agg (bs (kk b).l).toArray)) _
          refine go_R H ?_; clear H; intro w H
          refine q_tri H (J _) ?_; clear H; rintro _ _ w ⟨rfl, rfl⟩ H
          refine go_R H ?_; clear H; intro w H
          refine q_beq true Try.underlying4 ?_
          refine go_R H ?_; clear H; intro w H
          refine q_buildB1 (b := a) ?_
          change LW _ _ _ _ _ (upd _ _ (.agg (bs (kk a).l).toArray)) _
          refine go_R H ?_; clear H; intro w H
          refine q_tri H (J2 _) ?_; clear H; rintro _ _ w ⟨rfl, rfl⟩ H
          refine go_R H ?_; clear H; intro w H
          exact ret1 rfl rv_tmp ⟨rfl, H.fr⟩
    · have h8 : by8 a ≠ by8 b := fun h => hab (by8_inj h)
      obtain rfl : r = false := by cases r with | false => rfl | true => exact (hab (hr.1 rfl)).elim
      refine r_two 2 4 rfl rfl ?_ ?_
      · refine q_str (H.rbB (v := s1) (by (repeat (first | exact Take.z | apply Take.s)); done)) ?_
        refine q_nil ?_; refine r_nextS ?_
        refine r_op 4 rfl ?_
        refine q_tri H (RB2 _) ?_; clear H; rintro s2 _ w rfl H
        refine q_nil ?_; refine r_nextS ?_
        refine r_op 5 rfl ?_
        refine q_str (H.rbB (v := s2) (by (repeat (first | exact Take.z | apply Take.s)); done)) ?_
        refine q_nil ?_; refine r_nextS ?_
        refine r_takeR 6 ?_; refine r_takeR 7 ?_
        refine r_done ?_
        refine go_R H ?_; clear H; intro w H
        refine q_buildB1 (b := b) ?_
        change LW _ _ _ _ _ (upd _ _ (.agg (bs (kk b).l).toArray)) _
        refine go_R H ?_; clear H; intro w H
        refine q_tri H (J _) ?_; clear H; rintro _ _ w ⟨rfl, rfl⟩ H
        refine go_R H ?_; clear H; intro w H
        refine q_beq true Try.underlying4 ?_
        refine go_R H ?_; clear H; intro w H
        refine q_buildB1 (b := a) ?_
        change LW _ _ _ _ _ (upd _ _ (.agg (bs (kk a).l).toArray)) _
        refine go_R H ?_; clear H; intro w H
        refine q_tri H (J2 _) ?_; clear H; rintro _ _ w ⟨rfl, rfl⟩ H
        refine go_R H ?_; clear H; intro w H
        exact ret1 rfl rv_tmp ⟨rfl, H.fr⟩
      · refine q_tri H (RB2 _) ?_; clear H; rintro s2 _ w rfl H
        refine q_nil ?_; refine r_nextS ?_
        refine r_two 2 5 rfl rfl ?_ ?_
        · refine q_str (H.rbB (v := s1) (by (repeat (first | exact Take.z | apply Take.s)); done)) ?_
          refine q_nil ?_; refine r_nextS ?_
          refine r_op 5 rfl ?_
          refine q_str (H.rbB (v := s2) (by (repeat (first | exact Take.z | apply Take.s)); done)) ?_
          refine q_nil ?_; refine r_nextS ?_
          refine r_takeR 6 ?_; refine r_takeR 7 ?_
          refine r_done ?_
          refine go_R H ?_; clear H; intro w H
          refine q_buildB1 (b := b) ?_
          change LW _ _ _ _ _ (upd _ _ (.agg (bs (kk b).l).toArray)) _
          refine go_R H ?_; clear H; intro w H
          refine q_tri H (J _) ?_; clear H; rintro _ _ w ⟨rfl, rfl⟩ H
          refine go_R H ?_; clear H; intro w H
          refine q_beq true Try.underlying4 ?_
          refine go_R H ?_; clear H; intro w H
          refine q_buildB1 (b := a) ?_
          change LW _ _ _ _ _ (upd _ _ (.agg (bs (kk a).l).toArray)) _
          refine go_R H ?_; clear H; intro w H
          refine q_tri H (J2 _) ?_; clear H; rintro _ _ w ⟨rfl, rfl⟩ H
          refine go_R H ?_; clear H; intro w H
          exact ret1 rfl rv_tmp ⟨rfl, H.fr⟩
        · refine q_str (H.rbB (v := s2) (by (repeat (first | exact Take.z | apply Take.s)); done)) ?_
          refine q_nil ?_; refine r_nextS ?_
          refine r_op 2 rfl ?_
          refine q_str (H.rbB (v := s1) (by (repeat (first | exact Take.z | apply Take.s)); done)) ?_
          refine q_nil ?_; refine r_nextS ?_
          refine r_takeR 6 ?_; refine r_takeR 7 ?_
          refine r_done ?_
          refine go_R H ?_; clear H; intro w H
          refine q_buildB1 (b := b) ?_
          change LW _ _ _ _ _ (upd _ _ (.agg (bs (kk b).l).toArray)) _
          refine go_R H ?_; clear H; intro w H
          refine q_tri H (J _) ?_; clear H; rintro _ _ w ⟨rfl, rfl⟩ H
          refine go_R H ?_; clear H; intro w H
          refine q_beq true Try.underlying4 ?_
          refine go_R H ?_; clear H; intro w H
          refine q_buildB1 (b := a) ?_
          change LW _ _ _ _ _ (upd _ _ (.agg (bs (kk a).l).toArray)) _
          refine go_R H ?_; clear H; intro w H
          refine q_tri H (J2 _) ?_; clear H; rintro _ _ w ⟨rfl, rfl⟩ H
          refine go_R H ?_; clear H; intro w H
          exact ret1 rfl rv_tmp ⟨rfl, H.fr⟩
end Go.Proofs.Ytamkekmaahnbcaa
