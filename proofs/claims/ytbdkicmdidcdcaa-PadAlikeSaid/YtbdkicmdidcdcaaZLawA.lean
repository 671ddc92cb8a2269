/-
  The beginning of layer 9.
-/
import Derived.Test.YtbdkicmdidcdcaaZRO
import Derived.Test.YtbdkicmdidcdcaaZD
import Derived.Test.YtbdkicmdidcdcaaZN
import Derived.Test.YtbdkicmdidcdcaaZQ
namespace Go.Proofs.Ytbdkicmdidcdcaa
open Go.RowKit

def lab (n : UInt8) : B32 := ⟨(List.replicate 32 0).set 0 n, rfl⟩
def rOne : R := ⟨1, false, [118]⟩
theorem key_seal : (keysOf [115] 0).seal_.l ≠ (keysOf [115] 1).seal_.l := by decide +kernel
theorem key_label : (keysOf [115] 0).label.l ≠ (keysOf [115] 0).mark.l := by decide +kernel
theorem key_mark : (keysOf [115] 0).mark = (keysOf [115] 1).mark := rfl
theorem rOne_size : psize (rbytes rOne).length = (32 : Nat) := by decide +kernel
theorem rOne_pad : punpad (padB 32 (rbytes rOne)) = some (rbytes rOne) := by decide +kernel
theorem rOne_may : rmay rOne := by constructor <;> simp [rOne]
theorem rOne_rec : gRec (rbytes rOne) = rOne := by
  have h1 : gver ((rbytes rOne).take 8) 8 = 1 := by decide +kernel
  unfold gRec
  rw [h1]
  rfl
theorem rOne_get : rget (padB 32 (rbytes rOne)) = some rOne := by
  unfold rget
  rw [rOne_pad]
  dsimp only
  rw [if_neg (by decide), if_neg (by decide), rOne_rec, if_pos rOne_may]
theorem abc_pad : punpad (padB 32 [97, 98, 99]) = some [97, 98, 99] := by decide +kernel
set_option maxRecDepth 100000 in
set_option maxHeartbeats 4000000 in
theorem begun9_any (W : World) : Calls Try.prog 14 #[] W fun e w' => e = .returned (.bool true) ∧ No W w' := by
  have H := St.nil (fun _ => False) W
  have B0 := BOk.new 2 (by omega)
  have O0 := fun v w (h : RB w v [115]) => Of_any v [115] 0 w h (by decide) (by omega)
  have O1 := fun v w (h : RB w v [115]) => Of_any v [115] 1 w h (by decide) (by omega)
  have SL := fun gx gt gs gm gl sv w => RSeal_ideal 0 gx gt gs gm gl 2 0 0 (.slice none 0 0) [] [] [] sv [115] 0 1 (lab 9) rOne w B0 (by omega) (by decide) (by omega) (by omega) (by omega) (by omega) rOne_may 32 rOne_size
  obtain ⟨cb, hcb⟩ : ∃ x, tp 2 0 (32 + 16) = x := ⟨_, rfl⟩
  have hcl : cb.length = 48 := by rw [← hcb]; exact tp_length _ _ _
  rw [hcb] at SL
  have f1 := key_seal
  have f2 := key_label
  have f3 := key_mark
  obtain ⟨k, hk⟩ : ∃ k, keysOf [115] 0 = k := ⟨_, rfl⟩
  obtain ⟨l, hl⟩ : ∃ k, keysOf [115] 1 = k := ⟨_, rfl⟩
  rw [hk] at O0 f1 f2 f3 SL
  rw [hl] at O1 f1 f3
  refine q_enter Try.func14 rfl rfl ?_
  refine go_R H ?_; clear H; intro w H
  refine q_constB [115] H ?_; clear H; intro ga w H
  refine go_R H ?_; clear H; intro w H
  refine q_markC (g := ga) H ?_; clear H; intro w H
  replace H := St.asB H 1 rfl (by omega)
  refine q_call (O0 _ _ (H.rbB .z)) ?_; rintro _ w1 ⟨rfl, hNo⟩; replace H := H.no hNo; clear hNo; refine ⟨_, rfl, ?_⟩
  refine go_R H ?_; clear H; intro w H
  refine q_constB [115] H ?_; clear H; intro ga w H
  refine go_R H ?_; clear H; intro w H
  refine q_markC (g := ga) H ?_; clear H; intro w H
  replace H := St.asB H 1 rfl (by omega)
  refine q_call (O1 _ _ (H.rbB .z)) ?_; rintro _ w1 ⟨rfl, hNo⟩; replace H := H.no hNo; clear hNo; refine ⟨_, rfl, ?_⟩
  refine go_R H ?_; clear H; intro w H
  refine q_alloc H ?_; clear H; intro g1 w H
  refine go_R H ?_; clear H; intro w H
  refine q_alloc H ?_; clear H; intro g2 w H
  refine go_R H ?_; clear H; intro w H
  refine q_constB [97, 98, 99] H ?_; clear H; intro gb w H
  refine go_R H ?_; clear H; intro w H
  refine q_markC (g := gb) H ?_; clear H; intro w H
  replace H := St.asB H 3 rfl (by omega)
  refine q_tri H (Pad_any _ [97, 98, 99] _ (H.rbB .z) (by decide)) ?_; clear H; rintro _ _ w (⟨h0, rfl, rfl⟩ | ⟨sz, v3, h0, _, _, _, rfl, ⟨a3, rfl⟩, rfl⟩) H
  · exact absurd h0 (by decide)
  obtain rfl : sz = 32 := Int.ofNat.inj h0.symm
  refine go_R H ?_; clear H; intro w H
  refine q_tri H (Unpad_any _ (padB 32 [97, 98, 99]) _ (H.rbB .z) (by decide)) ?_; clear H; rintro _ _ w (⟨h, rfl, rfl⟩ | ⟨m, v5, h, rfl, rfl⟩) H
  · rw [abc_pad] at h; cases h
  obtain rfl : [97, 98, 99] = m := by rw [abc_pad] at h; injection h
  clear h
  refine go_R H ?_; clear H; intro w H
  refine q_tri H (TNew_any 2 _) ?_; clear H; rintro _ _ w ⟨gt, rfl, rfl⟩ H
  refine q_tri H (BNew_ideal ⟨gt, 0, none⟩ _) ?_; clear H; rintro _ _ w ⟨gx, gs, gm, gl, rfl, rfl⟩ H
  replace H : St _ _ (BXl gx gt gs gm gl 2 0 0 (.slice none 0 0) [] [] [] ++ [bsl v5 [97, 98, 99], cells g1 (cat k.ss) 28, cells g2 (cat l.ss) 28]) _ := H.sub (by repeat (first | exact Sub.nil | apply Sub.cons | exact Take.z | apply Take.s))
  refine go_R H ?_; clear H; intro w H
  refine q_constB [115] H ?_; clear H; intro ga w H
  refine go_R H ?_; clear H; intro w H
  refine q_markC (g := ga) H ?_; clear H; intro w H
  refine q_buildB1 (b := 9) ?_
  change LW _ _ _ _ _ (upd _ _ (.agg (bs (lab 9).l).toArray)) _
  refine q_buildR rOne.ss ?_
  refine q_triR H (SL gx gt gs gm gl (.slice (some ⟨ga, 0, none⟩) 1 1) _) ?_ (hr := Srcs.cons (Src.cell (by (repeat (first | exact Take.z | apply Take.s)); done) rfl (by omega)) Srcs.nil); clear H; rintro _ _ w ⟨i1, v1, B1, rfl, rfl⟩ H
  obtain ⟨pd, hpd⟩ : ∃ x, padB 32 (rbytes rOne) = x := ⟨_, rfl⟩
  have hgt : rget pd = some rOne := by rw [← hpd]; exact rOne_get
  rw [hpd] at B1 H
  refine go_R H ?_; clear H; intro w H
  refine q_alloc H ?_; clear H; intro g8 w H
  refine go_R H ?_; clear H; intro w H
  refine q_constB [115] H ?_; clear H; intro gc w H
  refine go_R H ?_; clear H; intro w H
  refine q_markC (g := gc) H ?_; clear H; intro w H
  refine q_buildB1 (b := 9) ?_
  change LW _ _ _ _ _ (upd _ _ (.agg (bs (lab 9).l).toArray)) _
  have OP := fun (lb : B32) sv w => ROpen_ideal 1 gx gt gs gm gl 2 i1 48 v1 _ [] [] sv [115] 0 1 lb cb w B1 (by decide) (by omega) (by omega) (by omega) (by omega) (by omega)
  rw [hk] at OP
  have e9 : ropen (mput ([] : List (SK × List UInt8)) (k.seal_.l, 1, (lab 9).l ++ putN 0, cb) pd) (k.seal_.l, 1, (lab 9).l ++ putN 0, cb) = some rOne := by
    have : mget [((k.seal_.l, (1 : Int), (lab 9).l ++ putN 0, cb), pd)] (k.seal_.l, 1, (lab 9).l ++ putN 0, cb) = some pd := if_pos rfl
    exact (congrArg (·.bind rget) this).trans hgt
  have e8 : ropen (mput ([] : List (SK × List UInt8)) (k.seal_.l, 1, (lab 9).l ++ putN 0, cb) pd) (k.seal_.l, 1, (lab 8).l ++ putN 0, cb) = none := by
    have : mget [((k.seal_.l, (1 : Int), (lab 9).l ++ putN 0, cb), pd)] (k.seal_.l, 1, (lab 8).l ++ putN 0, cb) = none := if_neg (fun h => absurd (show (lab 9).l ++ putN 0 = (lab 8).l ++ putN 0 from congrArg (fun x => x.2.2.1) h) (by decide))
    exact congrArg (·.bind rget) this
  refine go_R H ?_; clear H; intro w H
  refine q_triR H (OP (lab 9) (.slice (some ⟨gc, 0, none⟩) 1 1) _) ?_ (hr := Srcs.cons (Src.cell (by (repeat (first | exact Take.z | apply Take.s)); done) rfl (by omega)) Srcs.nil); clear H; rintro _ _ w ⟨(⟨h, rfl⟩ | ⟨r, h, rfl⟩), rfl⟩ H
  · rw [e9] at h; cases h
  obtain rfl : rOne = r := by rw [e9] at h; injection h
  clear h
  refine go_R H ?_; clear H; intro w H
  refine q_alloc H ?_; clear H; intro g10 w H
  refine go_R H ?_; clear H; intro w H
  refine q_constB [115] H ?_; clear H; intro gd w H
  refine go_R H ?_; clear H; intro w H
  refine q_markC (g := gd) H ?_; clear H; intro w H
  refine q_buildB1 (b := 8) ?_
  change LW _ _ _ _ _ (upd _ _ (.agg (bs (lab 8).l).toArray)) _
  refine go_R H ?_; clear H; intro w H
  refine q_triR H (OP (lab 8) (.slice (some ⟨gd, 0, none⟩) 1 1) _) ?_ (hr := Srcs.cons (Src.cell (by (repeat (first | exact Take.z | apply Take.s)); done) rfl (by omega)) Srcs.nil); clear H; rintro _ _ w ⟨(⟨h, rfl⟩ | ⟨r, h, _⟩), rfl⟩ H
  rotate_left
  · rw [e8] at h; cases h
  clear h e8 e9 OP SL O0 O1 B0 B1
  refine go_R H ?_; clear H; intro w H
  refine q_alloc H ?_; clear H; intro g12 w H
  refine go_R H ?_; clear H; intro w H
  refine q_call (Begun3_any _) ?_; rintro _ w1 ⟨rfl, hNo⟩; replace H := H.no hNo; clear hNo; refine ⟨_, rfl, ?_⟩
  refine go_R H ?_; clear H; intro w H
  refine q_call (Begun8_any _) ?_; rintro _ w1 ⟨rfl, hNo⟩; replace H := H.no hNo; clear hNo; refine ⟨_, rfl, ?_⟩
  replace H : St _ _ [cells g1 (cat k.ss) 28, cells g2 (cat l.ss) 28, bsl v5 [97, 98, 99], cells g8 (cat (En.ss ⟨0, 1, cb⟩)) 55, cells g10 (cat rOne.ss) 42] _ := H.sub (by repeat (first | exact Sub.nil | apply Sub.cons | exact Take.z | apply Take.s))
  refine go_R H ?_; clear H; intro w H
  refine q_wne_t (Kv_bytes k.seal_.l k.seal_.len) (Kv_bytes l.seal_.l l.seal_.len) (fun x => f1 (bs_inj (agg_inj x))) ?_
  refine go_R H ?_; clear H; intro w H
  refine q_weq_t (Kv_bytes k.mark.l k.mark.len) (Kv_bytes l.mark.l l.mark.len) (by rw [f3]) ?_
  refine go_R H ?_; clear H; intro w H
  refine q_wne_t (Kv_bytes k.label.l k.label.len) (Kv_bytes k.mark.l k.mark.len) (fun x => f2 (bs_inj (agg_inj x))) ?_
  refine go_R H ?_; clear H; intro w H
  refine q_str (H.rbB (v := v5) (by (repeat (first | exact Take.z | apply Take.s)); done)) ?_
  refine go_R H ?_; clear H; intro w H
  refine q_eq_t ?_ rfl rfl (by change ((str cb).size : Int) = 48; rw [str_size, hcl]; rfl)
  refine go_R H ?_; clear H; intro w H
  exact ret1 rfl rv_tmp ⟨rfl, H.fr⟩
end Go.Proofs.Ytbdkicmdidcdcaa
