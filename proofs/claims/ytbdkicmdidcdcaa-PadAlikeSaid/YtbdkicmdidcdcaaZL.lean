/-
  tape: New, Next, Copy; slices.Clone; num.Put by resources. tape: Next. tape: Copy; what a tape is; the document's Sum and Tape. The document's Tape. tape: Copy; the beginning of layer 7.
-/
import Derived.Test.YtbdkicmdidcdcaaZJ
import Derived.Test.YtbdkicmdidcdcaaZA
import Derived.Test.YtbdkicmdidcdcaaZC
import Derived.Test.YtbdkicmdidcdcaaZI
import Derived.Test.YtbdkicmdidcdcaaZP
import Derived.Test.YtbdkicmdidcdcaaZD
namespace Go.Proofs.Ytbdkicmdidcdcaa
open Go.RowKit

theorem Put_tri (n : Int) (v : Value) (l : List UInt8) (w : World) (h0 : -9223372036854775808 ≤ n) (h1 : n ≤ 9223372036854775807) (hl : l.length ≤ 1000000000) :
    Tri Try.prog 39 [v, .int .i64 n] [bsl v l] w fun v' L => L = [bsl v' (l ++ putN n)] := by
  intro F hF
  have own := Sep.one_iff.1 hF
  refine (Put_any 0 n v l w h0 h1 own.2 hl (Nat.zero_le _)).mono ?_
  rintro e w' ⟨v', rfl, ho, hg⟩
  refine ⟨v', _, rfl, rfl, fun k => v'.ownBlock = some k, Sep.one ⟨fun _ => Iff.rfl, ho⟩, hg.fr.mono fun k _ e => (own.1 k).2 e.symm, fun k hk => ?_⟩
  rcases hg.own with e | ⟨j, e, hj⟩
  · rw [e] at hk; exact .inl ((own.1 k).2 hk)
  · rw [e] at hk; cases hk; exact .inr hj
theorem RBs.blk {w : World} {g : Nat} {e : TypeId} {fz : Nat × Nat} (vs : List Value) (ls : List (List UInt8)) (n : Nat) (hg : w.heap[g]? = some (.cells vs.toArray e fz)) (hn : ls.length = n) (hv : vs.length = n) (hm : n ≤ 1000000) (h : ∀ (j : Nat) (x : Value) (l : List UInt8), vs[j]? = some x → ls[j]? = some l → RB w x l) :
    RBs w (.slice (some ⟨g, 0, none⟩) n n) ls := by
  subst hn
  refine ⟨vs, ⟨by rw [hv]; omega, fun u hu => ?_, .inr ⟨g, 0, ls.length, _, e, fz, rfl, hg, ?_, Nat.le_refl _, by unfold maxLen; omega⟩⟩, hv, h⟩
  · obtain ⟨j, hj⟩ := List.mem_iff_getElem?.1 hu
    have hjl : j < ls.length := by rw [← hv]; exact (List.getElem?_eq_some_iff.1 hj).1
    exact (slice_cells (h j u ls[j] hj (List.getElem?_eq_getElem hjl))).1
  · simp only [Nat.mul_one, List.drop_zero]; exact List.take_of_length_le (by omega)
theorem RBs.blk1 {w : World} {g : Nat} {e : TypeId} {fz : Nat × Nat} {v : Value} {l : List UInt8} (hg : w.heap[g]? = some (.cells [v].toArray e fz)) (h : RB w v l) : RBs w (.slice (some ⟨g, 0, none⟩) 1 1) [l] :=
  RBs.blk [v] [l] 1 hg rfl rfl (by omega) fun j x y a b => by
    match j with
    | 0 => simp at a b; subst a b; exact h
    | j + 1 => simp at a

set_option maxRecDepth 100000 in
theorem clone_any (v : Value) (l : List UInt8) (w : World) (h : RB w v l) (hl : l.length ≤ 10000000) : Tri Try.prog 68 [v] [] w fun v' L => L = [bsl v' l] := by
  refine Tri.pure fun H => ?_
  refine q_enter Try.func68 rfl rfl ?_
  rcases Rd.shape h with ⟨rfl, hl, _⟩ | ⟨g, off, cap, rfl, _⟩
  · refine go_W H ?_; clear H; intro w H
    obtain rfl : l = [] := List.eq_nil_of_length_eq_zero hl
    exact ret1 rfl rv_tmp ⟨_, _, rfl, rfl, H.nilB⟩
  · refine go_W H ?_; clear H; intro w H
    refine q_side0B H ?_; clear H; intro g w H
    refine go_W H ?_; clear H; intro w H
    refine q_appR H (h.no H.fr) ?_; clear H; intro v1 w H _
    refine go_W H ?_; clear H; intro w H
    exact ret1 rfl rv_tmp ⟨_, _, rfl, rfl, H⟩
set_option maxRecDepth 100000 in
theorem TNew_any (s : Int) (w : World) : Tri Try.prog 32 [.int .i64 s] [] w fun v L => ∃ g, v = .pointer (some ⟨g, 0, none⟩) ∧ L = [cells g [.int .i64 s, .int .i64 0, .slice none 0 0] 76, bsl (.slice none 0 0) []] := by
  refine Tri.pure fun H => ?_
  refine q_enter Try.func32 rfl rfl ?_
  refine go_W H ?_; clear H; intro w H
  refine q_build [[.int .i64 s], [.int .i64 0], [.slice none 0 0]] [.int .i64 s, .int .i64 0, .slice none 0 0] ?_
  refine go_W H ?_; clear H; intro w H
  refine q_box H ?_; clear H; intro g w H
  refine go_W H ?_; clear H; intro w H
  exact ret1 rfl rv_tmp ⟨_, _, rfl, ⟨_, rfl, rfl⟩, H.nilB.sub (by repeat (first | exact Sub.nil | apply Sub.cons | exact Take.z | apply Take.s))⟩
end Go.Proofs.Ytbdkicmdidcdcaa
namespace Go.Proofs.Ytbdkicmdidcdcaa
open Go.RowKit

/-- A block of a tape; what is left behind k more blocks. -/
def tblk (s : Int) (i : Nat) : List UInt8 := sha (putN s ++ putN i)
theorem tblk_length (s : Int) (i : Nat) : (tblk s i).length = 32 := sha_length _
def tmore (s : Int) (i : Nat) (r : List UInt8) : Nat → List UInt8
  | 0 => r
  | k + 1 => tmore s i r k ++ tblk s (i + k)
theorem tmore_length (s : Int) (i : Nat) (r : List UInt8) : ∀ k, (tmore s i r k).length = r.length + 32 * k
  | 0 => rfl
  | k + 1 => by rw [tmore, List.length_append, tmore_length s i r k, tblk_length]; omega
/-- How many blocks a call draws. -/
def tneed (n len : Nat) : Nat := (n - len + 31) / 32

set_option maxRecDepth 100000 in
set_option maxHeartbeats 1000000 in
theorem Next_any (gt : Nat) (s : Int) (i : Nat) (v : Value) (r : List UInt8) (n : Nat) (W : World) (hs : -9223372036854775808 ≤ s) (hs' : s ≤ 9223372036854775807) (hi : i ≤ 1000000000000) (hr : r.length ≤ 1000000) (hn : n ≤ 4000) :
    Tri Try.prog 55 [.pointer (some ⟨gt, 0, none⟩), .int .i64 n] [cells gt [.int .i64 s, .int .i64 i, v] 76, bsl v r] W fun b L =>
      ∃ v', L = [bsl b ((tmore s i r (tneed n r.length)).take n), cells gt [.int .i64 s, .int .i64 (i + tneed n r.length : Nat), v'] 76, bsl v' ((tmore s i r (tneed n r.length)).drop n)] := by
  refine Tri.of fun F H => ?_
  refine q_enter Try.func55 rfl rfl ?_
  refine go_W H ?_; clear H; intro w H
  refine q_loop (fun _ : Nat × Value => [(0, .pointer (some ⟨gt, 0, none⟩)), (1, .int .i64 n)])
    (fun x w => St F W [cells gt [.int .i64 s, .int .i64 (i + x.1 : Nat), x.2] 76, bsl x.2 (tmore s i r x.1)] w ∧ x.1 ≤ tneed n r.length) (fun x => tneed n r.length - x.1) (0, v) (by exact ⟨rfl, rfl, trivial⟩) ⟨H, Nat.zero_le _⟩ ?_
  clear H
  rintro ⟨k, v⟩ ρ w ⟨H, hk⟩
  dsimp only at H hk
  have hk' : k ≤ 200 := by unfold tneed at hk; omega
  have hml := tmore_length s i r k
  obtain ⟨va, vc, rfl⟩ := RB.val (H.rbB (by (repeat (first | exact Take.z | apply Take.s)); done))
  refine go_W H ?_; clear H; intro w H
  refine q_lt_s ?_ ?_
  · intro hlt
    have hkn : k < tneed n r.length := by unfold tneed; omega
    obtain ⟨tb, htb⟩ : ∃ t, tblk s (i + k) = t := ⟨_, rfl⟩
    have htl := htb ▸ tblk_length s (i + k)
    have htl' : (bs tb).length = 32 := by rw [bs_length, htl]
    have SS : ∀ g e fz w v, w.heap[g]? = some (.cells [v].toArray e fz) → RB w v ([] ++ putN s ++ putN (i + k : Nat)) → Calls Try.prog 57 #[.slice (some ⟨g, 0, none⟩) 1 1] w fun e w' => e = .returned (.agg (bs tb).toArray) ∧ No w w' := fun g e fz w v hg h => by
      rw [← htb]
      exact shaSum_is _ [_] _ w (RBs.blk1 hg h) (by simp) (by have := putN_length s; have := putN_length (i + k : Nat); simp only [List.length_append]; omega)
    refine go_W H ?_; clear H; intro w H
    refine q_merge (X := Nat) (fun ga => [(0, .pointer (some ⟨gt, 0, none⟩)), (1, .int .i64 n), (5, .pointer (some ⟨ga, 0, none⟩))])
      (fun ga w => St F W [cells ga (bs tb) 26, cells gt [.int .i64 s, .int .i64 (i + k : Nat), .slice va (tmore s i r k).length vc] 76, bsl (.slice va (tmore s i r k).length vc) (tmore s i r k)] w) ?_ ?_
    · replace H := H.drew
      refine r_start (Hold [(gt, .cells [Value.int .i64 s, .int .i64 (i + k : Nat), .slice va (tmore s i r k).length vc].toArray 76 (0, 0))]) 14 rfl holdS ?_
      refine r_takeX 0 ?_; refine r_takeX 5 ?_; refine r_takeX 1 ?_; refine r_takeX 6 ?_; refine r_takeX 2 ?_; refine r_takeX 7 ?_; refine r_takeX 3 ?_; refine r_takeX 8 ?_
      refine r_two 4 12 rfl rfl ?_ ?_
      · replace H := H.nilB
        refine q_tri H (Put_tri s (.slice none 0 0) [] _ hs hs' (by simp)) ?_; clear H; rintro v1 _ w rfl H
        refine q_nil ?_; refine r_nextS ?_
        refine r_two 9 12 rfl rfl ?_ ?_
        · refine q_tri H (Put_tri (i + k : Nat) v1 ([] ++ putN s) _ (by omega) (by omega) (by have := putN_length s; simp; omega)) ?_; clear H; rintro v2 _ w rfl H
          obtain ⟨a2, c2, rfl⟩ := RB.val (H.rbB (v := v2) (by (repeat (first | exact Take.z | apply Take.s)); done))
          refine q_nil ?_; refine r_nextS ?_
          refine r_two 10 12 rfl rfl ?_ ?_
          · refine q_side1 H ?_; clear H; intro g2 w H
            refine q_nil ?_; refine r_nextS ?_
            refine r_two 11 12 rfl rfl ?_ ?_
            · refine q_call (SS _ _ _ _ _ (H.blk (g := g2) (by (repeat (first | exact Take.z | apply Take.s)); done)) (H.rbB (by (repeat (first | exact Take.z | apply Take.s)); done))) ?_; rintro _ w1 ⟨rfl, hNo⟩; replace H := H.no hNo; clear hNo; refine ⟨_, rfl, ?_⟩
              refine q_nil ?_; refine r_nextS ?_
              refine r_op 12 rfl ?_
              refine q_alloc H ?_; clear H; intro ga w H
              refine q_nil ?_; refine r_nextS ?_
              refine r_op 13 rfl ?_
              refine q_storeW H ?_; clear H; intro w H
              refine q_nil ?_; refine r_nextS ?_
              refine r_done ?_
              exact ⟨ga, ⟨rfl, rfl, rfl, trivial⟩, H.sub (by repeat (first | exact Sub.nil | apply Sub.cons | exact Take.z | apply Take.s))⟩
            · refine q_alloc H ?_; clear H; intro ga w H
              refine q_nil ?_; refine r_nextS ?_
              refine r_op 11 rfl ?_
              refine q_call (SS _ _ _ _ _ (H.blk (g := g2) (by (repeat (first | exact Take.z | apply Take.s)); done)) (H.rbB (by (repeat (first | exact Take.z | apply Take.s)); done))) ?_; rintro _ w1 ⟨rfl, hNo⟩; replace H := H.no hNo; clear hNo; refine ⟨_, rfl, ?_⟩
              refine q_nil ?_; refine r_nextS ?_
              refine r_op 13 rfl ?_
              refine q_storeW H ?_; clear H; intro w H
              refine q_nil ?_; refine r_nextS ?_
              refine r_done ?_
              exact ⟨ga, ⟨rfl, rfl, rfl, trivial⟩, H.sub (by repeat (first | exact Sub.nil | apply Sub.cons | exact Take.z | apply Take.s))⟩
          · refine q_alloc H ?_; clear H; intro ga w H
            refine q_nil ?_; refine r_nextS ?_
            refine r_op 10 rfl ?_
            refine q_side1 H ?_; clear H; intro g2 w H
            refine q_nil ?_; refine r_nextS ?_
            refine r_op 11 rfl ?_
            refine q_call (SS _ _ _ _ _ (H.blk (g := g2) (by (repeat (first | exact Take.z | apply Take.s)); done)) (H.rbB (by (repeat (first | exact Take.z | apply Take.s)); done))) ?_; rintro _ w1 ⟨rfl, hNo⟩; replace H := H.no hNo; clear hNo; refine ⟨_, rfl, ?_⟩
            refine q_nil ?_; refine r_nextS ?_
            refine r_op 13 rfl ?_
            refine q_storeW H ?_; clear H; intro w H
            refine q_nil ?_; refine r_nextS ?_
            refine r_done ?_
            exact ⟨ga, ⟨rfl, rfl, rfl, trivial⟩, H.sub (by repeat (first | exact Sub.nil | apply Sub.cons | exact Take.z | apply Take.s))⟩
        · refine q_alloc H ?_; clear H; intro ga w H
          refine q_nil ?_; refine r_nextS ?_
          refine r_op 9 rfl ?_
          refine q_tri H (Put_tri (i + k : Nat) v1 ([] ++ putN s) _ (by omega) (by omega) (by have := putN_length s; simp; omega)) ?_; clear H; rintro v2 _ w rfl H
          obtain ⟨a2, c2, rfl⟩ := RB.val (H.rbB (v := v2) (by (repeat (first | exact Take.z | apply Take.s)); done))
          refine q_nil ?_; refine r_nextS ?_
          refine r_op 10 rfl ?_
          refine q_side1 H ?_; clear H; intro g2 w H
          refine q_nil ?_; refine r_nextS ?_
          refine r_op 11 rfl ?_
          refine q_call (SS _ _ _ _ _ (H.blk (g := g2) (by (repeat (first | exact Take.z | apply Take.s)); done)) (H.rbB (by (repeat (first | exact Take.z | apply Take.s)); done))) ?_; rintro _ w1 ⟨rfl, hNo⟩; replace H := H.no hNo; clear hNo; refine ⟨_, rfl, ?_⟩
          refine q_nil ?_; refine r_nextS ?_
          refine r_op 13 rfl ?_
          refine q_storeW H ?_; clear H; intro w H
          refine q_nil ?_; refine r_nextS ?_
          refine r_done ?_
          exact ⟨ga, ⟨rfl, rfl, rfl, trivial⟩, H.sub (by repeat (first | exact Sub.nil | apply Sub.cons | exact Take.z | apply Take.s))⟩
      · refine q_alloc H ?_; clear H; intro ga w H
        refine q_nil ?_; refine r_nextS ?_
        refine r_op 4 rfl ?_
        replace H := H.nilB
        refine q_tri H (Put_tri s (.slice none 0 0) [] _ hs hs' (by simp)) ?_; clear H; rintro v1 _ w rfl H
        refine q_nil ?_; refine r_nextS ?_
        refine r_op 9 rfl ?_
        refine q_tri H (Put_tri (i + k : Nat) v1 ([] ++ putN s) _ (by omega) (by omega) (by have := putN_length s; simp; omega)) ?_; clear H; rintro v2 _ w rfl H
        obtain ⟨a2, c2, rfl⟩ := RB.val (H.rbB (v := v2) (by (repeat (first | exact Take.z | apply Take.s)); done))
        refine q_nil ?_; refine r_nextS ?_
        refine r_op 10 rfl ?_
        refine q_side1 H ?_; clear H; intro g2 w H
        refine q_nil ?_; refine r_nextS ?_
        refine r_op 11 rfl ?_
        refine q_call (SS _ _ _ _ _ (H.blk (g := g2) (by (repeat (first | exact Take.z | apply Take.s)); done)) (H.rbB (by (repeat (first | exact Take.z | apply Take.s)); done))) ?_; rintro _ w1 ⟨rfl, hNo⟩; replace H := H.no hNo; clear hNo; refine ⟨_, rfl, ?_⟩
        refine q_nil ?_; refine r_nextS ?_
        refine r_op 13 rfl ?_
        refine q_storeW H ?_; clear H; intro w H
        refine q_nil ?_; refine r_nextS ?_
        refine r_done ?_
        exact ⟨ga, ⟨rfl, rfl, rfl, trivial⟩, H.sub (by repeat (first | exact Sub.nil | apply Sub.cons | exact Take.z | apply Take.s))⟩
    clear H
    intro ga ρ w H
    refine go_W H ?_; clear H; intro w H
    replace H := H.drew
    refine r_start (Hold []) 10 rfl trivial ?_
    refine r_takeX 0 ?_; refine r_takeX 1 ?_; refine r_takeX 5 ?_; refine r_takeX 2 ?_; refine r_takeX 3 ?_
    refine r_op 4 rfl ?_
    refine q_load H ?_
    refine q_nil ?_; refine r_nextS ?_
    refine r_op 6 rfl ?_
    refine q_appR H (H.rbC (by (repeat (first | exact Take.z | apply Take.s)); done) htl (by omega)) ?_; clear H; intro v1 w H _
    obtain ⟨a1, c1, rfl⟩ := RB.val (H.rbB (v := v1) (by (repeat (first | exact Take.z | apply Take.s)); done))
    refine q_nil ?_; refine r_nextS ?_
    refine r_takeX 7 ?_; refine r_takeX 8 ?_
    refine r_op 9 rfl ?_
    refine q_store H ?_; clear H; intro w H
    refine q_nil ?_; refine r_nextS ?_
    refine r_done ?_
    refine go_W H ?_; clear H; intro w H
    refine ⟨(k + 1, .slice a1 (tmore s i r k ++ tb).length c1), ⟨rfl, rfl, trivial⟩, ⟨?_, hkn⟩, by dsimp only; omega⟩
    have e : ((i + k : Nat) : Int) + 1 = ((i + (k + 1) : Nat) : Int) := by omega
    rw [e] at H
    dsimp only
    rw [tmore, htb]
    exact H.sub (by repeat (first | exact Sub.nil | apply Sub.cons | exact Take.z | apply Take.s))
  · intro hge
    have hkn : k = tneed n r.length := by unfold tneed at hk ⊢; omega
    subst hkn
    have hge' : n ≤ (tmore s i r (tneed n r.length)).length := by omega
    generalize tmore s i r (tneed n r.length) = R at *
    refine go_W H ?_; clear H; intro w H
    refine q_toB n (H.rbB (by (repeat (first | exact Take.z | apply Take.s)); done)) ?_
    intro vs hvs _
    refine go_W H ?_; clear H; intro w H
    refine q_tri H (clone_any vs (R.take n) _ (hvs _ (H.rbB (by (repeat (first | exact Take.z | apply Take.s)); done))) (by rw [List.length_take]; omega)) ?_; clear H; rintro vb _ w rfl H
    refine go_W H ?_; clear H; intro w H
    refine q_fromB n (H.rbB (v := .slice va R.length vc) (by (repeat (first | exact Take.z | apply Take.s)); done)) ?_
    intro vs2 hvs2 _
    refine go_W H ?_; clear H; intro w H
    refine q_tri H (clone_any vs2 (R.drop n) _ (hvs2 _ (H.rbB (v := .slice va R.length vc) (by (repeat (first | exact Take.z | apply Take.s)); done))) (by rw [List.length_drop]; omega)) ?_; clear H; rintro vr _ w rfl H
    obtain ⟨ra, rc, rfl⟩ := RB.val (H.rbB (v := vr) (by (repeat (first | exact Take.z | apply Take.s)); done))
    refine go_W H ?_; clear H; intro w H
    exact ret1 rfl rv_tmp ⟨_, _, rfl, ⟨_, rfl⟩, H.sub (by repeat (first | exact Sub.nil | apply Sub.cons | exact Take.z | apply Take.s))⟩
end Go.Proofs.Ytbdkicmdidcdcaa
namespace Go.Proofs.Ytbdkicmdidcdcaa
open Go.RowKit

theorem tmore_add (s : Int) (i : Nat) (r : List UInt8) (a : Nat) : ∀ k, tmore s i r (a + k) = tmore s i r a ++ tmore s (i + a) [] k
  | 0 => by simp [tmore]
  | k + 1 => by
    rw [← Nat.add_assoc, tmore, tmore_add s i r a k, tmore, List.append_assoc, Nat.add_assoc]
theorem tmore_rest (s : Int) (i : Nat) (r : List UInt8) : ∀ k, tmore s i r k = r ++ tmore s i [] k
  | 0 => by simp [tmore]
  | k + 1 => by rw [tmore, tmore_rest s i r k, tmore, List.append_assoc]
/-- n bytes of a tape from a place on. -/
def tp (s : Int) (at' n : Nat) : List UInt8 := ((tmore s 0 [] ((at' + n + 31) / 32)).drop at').take n
theorem tp_length (s : Int) (at' n : Nat) : (tp s at' n).length = n := by
  unfold tp; rw [List.length_take, List.length_drop, tmore_length]; simp; omega
theorem tp_of (s : Int) (at' n K : Nat) (h : at' + n ≤ 32 * K) : ((tmore s 0 [] K).drop at').take n = tp s at' n := by
  unfold tp
  obtain ⟨j, rfl⟩ : ∃ j, K = (at' + n + 31) / 32 + j := ⟨K - (at' + n + 31) / 32, by omega⟩
  have hl := tmore_length s 0 [] ((at' + n + 31) / 32)
  rw [tmore_add, List.drop_append_of_le_length (by rw [hl]; simp; omega), List.take_append_of_le_length (by rw [List.length_drop, hl]; simp; omega)]
/-- What is left of a tape of which some was given. -/
def tleft (s : Int) (i at' : Nat) : List UInt8 := (tmore s 0 [] i).drop at'
theorem tleft_length (s : Int) (i at' : Nat) : (tleft s i at').length = 32 * i - at' := by unfold tleft; rw [List.length_drop, tmore_length]; simp
theorem tleft_more (s : Int) (i at' k : Nat) (h : at' ≤ 32 * i) : tmore s i (tleft s i at') k = (tmore s 0 [] (i + k)).drop at' := by
  unfold tleft
  rw [tmore_rest, tmore_add, List.drop_append_of_le_length (by rw [tmore_length]; simp; omega), Nat.zero_add]
/-- Next, by places. -/
theorem Next_at (gt : Nat) (s : Int) (i at' : Nat) (v : Value) (n : Nat) (W : World) (hs : -9223372036854775808 ≤ s ∧ s ≤ 9223372036854775807) (hi : i ≤ 1000000000000) (ha : at' ≤ 32 * i) (hr : 32 * i ≤ at' + 1000000) (hn : n ≤ 4000) :
    Tri Try.prog 55 [.pointer (some ⟨gt, 0, none⟩), .int .i64 n] [cells gt [.int .i64 s, .int .i64 i, v] 76, bsl v (tleft s i at')] W fun b L =>
      ∃ v' i', i ≤ i' ∧ i' ≤ i + 130 ∧ at' + n ≤ 32 * i' ∧ 32 * i' ≤ max (32 * i) (at' + n + 32) ∧ L = [bsl b (tp s at' n), cells gt [.int .i64 s, .int .i64 (i' : Nat), v'] 76, bsl v' (tleft s i' (at' + n))] := by
  have hl := tleft_length s i at'
  refine fun F hF => (Next_any gt s i v (tleft s i at') n W hs.1 hs.2 hi (by omega) hn F hF).mono ?_
  rintro e w' ⟨b, L, he, ⟨v', rfl⟩, hS⟩
  have hk : tneed n (tleft s i at').length = (n - (32 * i - at') + 31) / 32 := by rw [hl]; rfl
  generalize tneed n (tleft s i at').length = k at hk hS
  refine ⟨b, _, he, ⟨v', i + k, by omega, by omega, by omega, by omega, rfl⟩, ?_⟩
  have e1 : (tmore s i (tleft s i at') k).take n = tp s at' n := by rw [tleft_more _ _ _ _ ha, tp_of _ _ _ _ (by omega)]
  have e2 : (tmore s i (tleft s i at') k).drop n = tleft s (i + k) (at' + n) := by rw [tleft_more _ _ _ _ ha]; unfold tleft; rw [List.drop_drop]
  rw [e1, e2] at hS
  exact hS

theorem RSha_tri (g : Nat) (v : Value) (b : List UInt8) (w : World) (h : RB w v b) (hl : b.length ≤ 900000000) :
    Tri Try.prog 75 [v, .slice (some ⟨g, 0, none⟩) 8 8] [cells g (ws iv8.l) 100] w fun v' L => L = [bsl v' (sha b)] := by
  intro F hF
  have own := Sep.one_iff.1 hF
  refine (rsha_any 0 v b g w h hl (Nat.zero_le _) own.2).mono ?_
  rintro e w' ⟨v', rfl, ho, hf, hn⟩
  exact ⟨v', _, rfl, rfl, fun k => v'.ownBlock = some k, Sep.one ⟨fun _ => Iff.rfl, ho⟩, hf.mono fun k _ e => (own.1 k).2 e, fun k hk => .inr (hn k hk)⟩
theorem RPut_tri (n : Int) (w : World) (h0 : -9223372036854775808 ≤ n) (h1 : n ≤ 9223372036854775807) :
    Tri Try.prog 42 [.int .i64 n] [] w fun v' L => L = [bsl v' (putN n)] :=
  Tri.pure fun H => (RPut_any 0 n w h0 h1 (Nat.zero_le _)).mono fun e w' ⟨v', he, ho, hg⟩ =>
    ⟨v', _, he, rfl, H.newSl (hg.fr.mono fun k _ e => by simp [Value.ownBlock] at e) ho fun k hk => by
      rcases hg.own with e | ⟨j, e, hj⟩
      · rw [e] at hk; simp [Value.ownBlock] at hk
      · rw [e] at hk; cases hk; exact hj⟩
set_option maxRecDepth 100000 in
theorem RSum_any (v : Value) (b : List UInt8) (w : World) (h : RB w v b) (hl : b.length ≤ 900000000) :
    Calls Try.prog 65 #[v] w fun e w' => e = .returned (.agg (bs (sha b)).toArray) ∧ No w w' := by
  have H := St.nil (fun _ => False) w
  obtain ⟨sb, hsb⟩ : ∃ x, sha b = x := ⟨_, rfl⟩
  have hsl := hsb ▸ sha_length b
  have hsl' : (bs sb).length = 32 := by rw [bs_length, hsl]
  have SH := fun g w (h : RB w v b) => RSha_tri g v b w h hl
  simp only [hsb] at SH ⊢
  have e8 : [Value.int .u32 1779033703, .int .u32 3144134277, .int .u32 1013904242, .int .u32 2773480762, .int .u32 1359893119, .int .u32 2600822924, .int .u32 528734635, .int .u32 1541459225] = ws iv8.l := rfl
  refine q_enter Try.func65 rfl rfl ?_
  refine go_W H ?_; clear H; intro w H
  refine q_alloc H ?_; clear H; intro g2 w H
  refine go_W H ?_; clear H; intro w H
  refine q_alloc H ?_; clear H; intro g3 w H
  refine go_W H ?_; clear H; intro w H
  replace H := H.drew
  refine r_start (Hold []) 5 rfl trivial ?_
  refine r_takeX 0 ?_; refine r_takeX 1 ?_
  refine r_op 2 rfl ?_
  refine q_side8 H ?_; clear H; intro g w H
  rw [e8] at H
  refine q_nil ?_; refine r_nextS ?_
  refine r_op 3 rfl ?_
  refine q_tri H (SH g _ (h.no H.fr)) ?_; clear H; rintro v1 _ w rfl H
  refine q_nil ?_; refine r_nextS ?_
  refine r_op 4 rfl ?_
  refine q_copyB H (H.rbB (by (repeat (first | exact Take.z | apply Take.s)); done)) ?_; clear H; intro w H
  have eo : over (List.replicate 32 0) 0 32 sb = sb := by
    unfold over; rw [List.take_zero, List.nil_append, Nat.zero_add, List.drop_of_length_le (by simp; omega), List.append_nil, List.take_of_length_le (by omega)]
  rw [eo] at H
  refine q_nil ?_; refine r_nextS ?_
  refine r_done ?_
  refine go_W H ?_; clear H; intro w H
  exact ret1 rfl (rv_agg H) ⟨rfl, H.fr⟩
end Go.Proofs.Ytbdkicmdidcdcaa
namespace Go.Proofs.Ytbdkicmdidcdcaa
open Go.RowKit

theorem St.rdOf {S : Nat → Prop} {w0 w : World} {L : List Res} {v v' : Value} {l l' : List UInt8} (H : St S w0 (bsl v l :: L) w) (hv : ∀ w, RB w v l → RB w v' l') (ho : v'.ownBlock = v.ownBlock) : St S w0 (brd v' l' :: L) w :=
  H.upd (M := [brd v' l']) fun F ⟨a, b⟩ => ⟨F, Sep.one ⟨fun k => by rw [ho]; exact a k, hv w b.rd⟩, Fr.refl _ _, fun _ => .inl⟩

set_option maxRecDepth 100000 in
set_option maxHeartbeats 1000000 in
theorem RTape_any (s : Int) (at' n : Nat) (W : World) (hs : -9223372036854775808 ≤ s ∧ s ≤ 9223372036854775807) (ha : at' ≤ 1000000000000) (hn : n ≤ 1000000) :
    Tri Try.prog 86 [.int .i64 s, .int .i64 at', .int .i64 n] [] W fun v L => L = [brd v (tp s at' n)] ∧ ∃ a c, v = .slice a n c := by
  refine Tri.pure fun H => ?_
  obtain ⟨i0, hi0⟩ : ∃ i, at' / 32 = i := ⟨_, rfl⟩
  obtain ⟨off, hoff⟩ : ∃ i, at' % 32 = i := ⟨_, rfl⟩
  have hq : ((at' : Int) / 32) = (i0 : Int) := by omega
  have hm : ((at' : Int) % 32) = (off : Int) := by omega
  refine q_enter Try.func86 rfl rfl ?_
  refine go_W H ?_; clear H; intro w H
  refine q_loop (fun x : Nat × Value => [(0, .int .i64 s), (1, .int .i64 at'), (2, .int .i64 n), (7, x.2), (8, .int .i64 (i0 + x.1 : Nat))])
    (fun x w => St (fun _ => False) W [bsl x.2 (tmore s i0 [] x.1)] w ∧ x.1 ≤ (off + n + 31) / 32) (fun x => (off + n + 31) / 32 - x.1) (0, .slice none 0 0) (by exact ⟨rfl, rfl, rfl, rfl, by rw [Nat.add_zero, ← hq]; rfl, trivial⟩) ⟨H.nilB, Nat.zero_le _⟩ ?_
  clear H
  rintro ⟨k, v⟩ ρ w ⟨H, hk⟩
  dsimp only at H hk
  have hml := tmore_length s i0 [] k
  rw [List.length_nil, Nat.zero_add] at hml
  obtain ⟨va, vc, rfl⟩ := RB.val (H.rbB (by (repeat (first | exact Take.z | apply Take.s)); done))
  refine go_W H ?_; clear H; intro w H
  refine q_lt_s ?_ ?_
  · intro hlt
    obtain ⟨tb, htb⟩ : ∃ t, tblk s (i0 + k) = t := ⟨_, rfl⟩
    have htl := htb ▸ tblk_length s (i0 + k)
    have htl' : (bs tb).length = 32 := by rw [bs_length, htl]
    have SS : ∀ w v, RB w v (putN s ++ putN (i0 + k : Nat)) → Calls Try.prog 65 #[v] w fun e w' => e = .returned (.agg (bs tb).toArray) ∧ No w w' := fun w v h => by
      rw [← htb]
      exact RSum_any v _ w h (by have := putN_length s; have := putN_length (i0 + k : Nat); simp only [List.length_append]; omega)
    refine go_W H ?_; clear H; intro w H
    refine q_tri H (RPut_tri s _ hs.1 hs.2) ?_; clear H; rintro v1 _ w rfl H
    refine go_W H ?_; clear H; intro w H
    refine q_tri H (RPut_tri (i0 + k : Nat) _ (by omega) (by omega)) ?_; clear H; rintro v2 _ w rfl H
    have hp1 := putN_length s
    have hp2 := putN_length (i0 + k : Nat)
    refine q_appR (v := v1) H (H.rbB (v := v2) (by (repeat (first | exact Take.z | apply Take.s)); done)) ?_; clear H; intro v3 w H _
    refine q_call (SS _ v3 (H.rbB (by (repeat (first | exact Take.z | apply Take.s)); done))) ?_; rintro _ w1 ⟨rfl, hNo⟩; replace H := H.no hNo; clear hNo; refine ⟨_, rfl, ?_⟩
    refine q_alloc H ?_; clear H; intro ga w H
    refine go_W H ?_; clear H; intro w H
    refine q_appR (v := .slice va (tmore s i0 [] k).length vc) H (H.rbC (g := ga) (by (repeat (first | exact Take.z | apply Take.s)); done) htl (by omega)) ?_; clear H; intro v4 w H _
    refine go_W H ?_; clear H; intro w H
    refine ⟨(k + 1, v4), ⟨rfl, rfl, rfl, rfl, rfl, trivial⟩, ⟨?_, by dsimp only; omega⟩, by dsimp only; omega⟩
    dsimp only
    rw [tmore, htb]
    exact H.sub (by repeat (first | exact Sub.nil | apply Sub.cons | exact Take.z | apply Take.s))
  · intro hge
    refine go_W H ?_; clear H; intro w H
    have hk0 : k ≤ 100000 := by omega
    refine q_subB off (off + n) (H.rbB (by (repeat (first | exact Take.z | apply Take.s)); done)) ?_
    intro v' hv ho
    refine go_W H ?_; clear H; intro w H
    have e : ((tmore s i0 [] k).take (off + n)).drop off = tp s at' n := by
      rw [List.drop_take, Nat.add_sub_cancel_left, ← tp_of s at' n (i0 + k) (by omega), tmore_add, Nat.zero_add]
      have : at' = (tmore s 0 [] i0).length + off := by rw [tmore_length]; simp; omega
      rw [this, List.drop_length_add_append]
    rw [e] at hv
    have h2 := H.rdOf hv ho
    obtain ⟨a, c, rfl⟩ := RB.val (h2.rbR .z)
    rw [tp_length] at h2 ⊢
    exact ret1 rfl rv_tmp ⟨_, _, rfl, ⟨rfl, _, _, rfl⟩, h2⟩
end Go.Proofs.Ytbdkicmdidcdcaa
namespace Go.Proofs.Ytbdkicmdidcdcaa
open Go.RowKit

set_option maxRecDepth 100000 in
set_option maxHeartbeats 1000000 in
theorem TCopy_any (gt : Nat) (s i : Int) (v : Value) (r : List UInt8) (W : World) (hr : r.length ≤ 1000000) :
    Tri Try.prog 85 [.pointer (some ⟨gt, 0, none⟩)] [cells gt [.int .i64 s, .int .i64 i, v] 76, bsl v r] W fun u L =>
      ∃ g v', u = .pointer (some ⟨g, 0, none⟩) ∧ L = [cells g [.int .i64 s, .int .i64 i, v'] 76, bsl v' r, cells gt [.int .i64 s, .int .i64 i, v] 76, bsl v r] := by
  refine Tri.of fun F H => ?_
  obtain ⟨va, vc, rfl⟩ := RB.val (H.rbB (v := v) (by (repeat (first | exact Take.z | apply Take.s)); done))
  refine q_enter Try.func85 rfl rfl ?_
  refine go_W H ?_; clear H; intro w H
  replace H := H.drew
  refine r_start (Hold [(gt, .cells [Value.int .i64 s, .int .i64 i, .slice va r.length vc].toArray 76 (0, 0))]) 16 rfl holdS ?_
  refine r_takeX 0 ?_; refine r_takeX 4 ?_; refine r_takeX 8 ?_; refine r_takeX 1 ?_; refine r_takeX 5 ?_; refine r_takeX 9 ?_; refine r_takeX 2 ?_; refine r_takeX 6 ?_; refine r_takeX 10 ?_; refine r_takeX 3 ?_; refine r_takeX 7 ?_; refine r_takeX 11 ?_
  refine r_op 12 rfl ?_
  refine q_tri H (clone_any (.slice va r.length vc) r _ (H.rbB (by (repeat (first | exact Take.z | apply Take.s)); done)) (by omega)) ?_; clear H; rintro v1 _ w rfl H
  obtain ⟨a1, c1, rfl⟩ := RB.val (H.rbB (v := v1) (by (repeat (first | exact Take.z | apply Take.s)); done))
  refine q_nil ?_; refine r_nextS ?_
  refine r_take 13 rfl rfl (fun w hS => x_build [[.int .i64 s], [.int .i64 i], [.slice a1 r.length c1]] [.int .i64 s, .int .i64 i, .slice a1 r.length c1] (by repeat (first | rfl | (refine .inl ⟨rfl, rfl, rfl, ?_⟩) | (refine .inr ⟨by decide, rfl, ?_⟩)))) ?_
  refine r_op 14 rfl ?_
  refine q_box H ?_; clear H; intro g w H
  refine q_nil ?_; refine r_nextS ?_
  refine r_takeX 15 ?_
  refine r_done ?_
  refine go_W H ?_; clear H; intro w H
  exact ret1 rfl rv_tmp ⟨_, _, rfl, ⟨_, _, rfl, rfl⟩, H.sub (by repeat (first | exact Sub.nil | apply Sub.cons | exact Take.z | apply Take.s))⟩

theorem RB.valN {w : World} {v : Value} {l : List UInt8} {n : Nat} (h : RB w v l) (hl : l.length = n) : ∃ a c, v = .slice a n c := by subst hl; exact h.val
theorem tp_split (s : Int) (at' a b : Nat) : tp s at' (a + b) = tp s at' a ++ tp s (at' + a) b := by
  rw [← tp_of s at' (a + b) ((at' + a + b + 31) / 32) (by omega), ← tp_of s at' a ((at' + a + b + 31) / 32) (by omega), ← tp_of s (at' + a) b ((at' + a + b + 31) / 32) (by omega), List.take_add, List.drop_drop]

set_option maxRecDepth 100000 in
set_option maxHeartbeats 1000000 in
theorem begun7_any (w : World) : Calls Try.prog 74 #[] w fun e w' => e = .returned (.bool true) ∧ No w w' := by
  have H := St.nil (fun _ => False) w
  have hs : (-9223372036854775808 : Int) ≤ 5 ∧ (5 : Int) ≤ 9223372036854775807 := by omega
  refine q_enter Try.func74 rfl rfl ?_
  refine go_W H ?_; clear H; intro w H
  refine q_tri H (TNew_any 5 _) ?_; clear H; rintro _ _ w ⟨g1, rfl, rfl⟩ H
  refine go_W H ?_; clear H; intro w H
  have e0 : ([] : List UInt8) = tleft 5 0 0 := rfl
  rw [e0] at H
  refine q_tri H (Next_at g1 5 0 0 (.slice none 0 0) 3 _ hs (by omega) (by omega) (by omega) (by omega)) ?_; clear H; rintro v1 _ w ⟨u1, i1, hi1, hi2, hi3, hi4, rfl⟩ H
  refine go_W H ?_; clear H; intro w H
  refine q_tri H (TCopy_any g1 5 i1 u1 (tleft 5 i1 (0 + 3)) _ (by rw [tleft_length]; omega)) ?_; clear H; rintro _ _ w ⟨g2, u2, rfl, rfl⟩ H
  refine go_W H ?_; clear H; intro w H
  refine q_tri H (Next_at g1 5 i1 (0 + 3) u1 40 _ hs (by omega) (by omega) (by omega) (by omega)) ?_; clear H; rintro v2 _ w ⟨u3, i3, hj1, hj2, hj3, hj4, rfl⟩ H
  refine go_W H ?_; clear H; intro w H
  refine q_tri H (Next_at g2 5 i1 (0 + 3) u2 40 _ hs (by omega) (by omega) (by omega) (by omega)) ?_; clear H; rintro v3 _ w ⟨u4, i4, hk1, hk2, hk3, hk4, rfl⟩ H
  have hx1 := tp_length 5 0 3
  have hx2 := tp_length 5 (0 + 3) 40
  have hx3 : tp 5 0 43 = tp 5 0 3 ++ tp 5 (0 + 3) 40 := tp_split 5 0 3 40
  have RT := fun w => RTape_any 5 0 43 w hs (by omega) (by omega)
  rw [hx3] at RT
  generalize tp 5 0 3 = x1 at *
  generalize tp 5 (0 + 3) 40 = x2 at *
  have hx12 : (x1 ++ x2).length = 43 := by rw [List.length_append]; omega
  obtain ⟨a1, c1, rfl⟩ := RB.valN (H.rbB (v := v1) (by (repeat (first | exact Take.z | apply Take.s)); done)) hx1
  obtain ⟨a2, c2, rfl⟩ := RB.valN (H.rbB (v := v2) (by (repeat (first | exact Take.z | apply Take.s)); done)) hx2
  obtain ⟨a3, c3, rfl⟩ := RB.valN (H.rbB (v := v3) (by (repeat (first | exact Take.z | apply Take.s)); done)) hx2
  refine go_W H ?_; clear H; intro w H
  replace H := H.drew
  refine r_start (HoldB [(.slice a1 3 c1, x1), (.slice a2 40 c2, x2), (.slice a3 40 c3, x2)]) 29 rfl holdS ?_
  refine r_op 0 rfl ?_
  refine q_call (Begun3_any _) ?_; rintro _ w1 ⟨rfl, hNo⟩; replace H := H.no hNo; clear hNo; refine ⟨_, rfl, ?_⟩
  refine q_nil ?_; refine r_nextS ?_
  refine r_takeX 1 ?_; refine r_takeX 2 ?_; refine r_takeX 3 ?_; refine r_takeX 4 ?_; refine r_takeX 5 ?_; refine r_takeX 6 ?_; refine r_takeX 7 ?_; refine r_takeX 8 ?_; refine r_takeX 9 ?_; refine r_takeX 10 ?_; refine r_takeX 11 ?_; refine r_takeX 12 ?_; refine r_takeX 14 ?_; refine r_takeX 13 ?_; refine r_takeX 15 ?_; refine r_takeX 16 ?_; refine r_takeX 17 ?_; refine r_takeX 18 ?_; refine r_takeX 19 ?_; refine r_takeX 21 ?_; refine r_takeX 20 ?_; refine r_takeX 22 ?_; refine r_takeX 23 ?_
  refine r_op 24 rfl ?_
  refine q_tri H (RT _) ?_; clear H; rintro _ _ w ⟨rfl, ta, tc, rfl⟩ H
  refine q_nil ?_; refine r_nextS ?_
  refine r_op 25 rfl ?_
  refine q_str (H.rbR (v := .slice ta 43 tc) (by (repeat (first | exact Take.z | apply Take.s)); done)) ?_
  refine q_nil ?_; refine r_nextS ?_
  refine r_takeX 26 ?_; refine r_takeX 27 ?_; refine r_takeX 28 ?_
  refine r_done ?_
  refine go_W H ?_; clear H; intro w H
  exact ret1 rfl rv_tmp ⟨rfl, H.fr⟩
set_option maxRecDepth 100000 in
theorem Begun7_any (w : World) : Calls Try.prog 61 #[] w fun e w' => e = .returned (.bool true) ∧ No w w' := by
  have H := St.nil (fun _ => False) w
  refine q_enter Try.func61 rfl rfl ?_
  refine go_W H ?_; clear H; intro w H
  refine q_call (begun7_any _) ?_; rintro _ w1 ⟨rfl, hNo⟩; replace H := H.no hNo; clear hNo; refine ⟨_, rfl, ?_⟩
  refine go_W H ?_; clear H; intro w H
  exact ret1 rfl rv_tmp ⟨rfl, H.fr⟩
end Go.Proofs.Ytbdkicmdidcdcaa
