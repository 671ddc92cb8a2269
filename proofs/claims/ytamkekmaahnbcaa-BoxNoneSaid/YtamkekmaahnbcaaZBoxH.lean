/-
  BoxNone, walked.
-/
import Derived.Test.YtamkekmaahnbcaaZN
import Derived.Test.YtamkekmaahnbcaaZI
namespace Go.Proofs.Ytamkekmaahnbcaa
open Go.RowKit

section
variable {P : Program} {n : Nat} {ρ : Env} {w : World} {d : Nat} {T : TypeId} {p : String} {af : Array Edge} {gd : Option (Nat × Bool)}
theorem x_buildB0 {t m e : Nat} [ha : ArrOf P t m e 1] [hz : ZeroOf P t (bs (List.replicate m 0))] :
    (execOp (ev ρ) ⟨some d, .build t #[], T, p, af, gd⟩).run P w = .ok (.value (.agg (bs (List.replicate m 0)).toArray)) w := by
  have hb := built_arr (P := P) (t := t) (z := bs (List.replicate m 0)) (l := bs (List.replicate m 0)) (parts := []) rfl
  have := run_build (P := P) w t #[] _ hb
  simp only [execOp, Sem.run_bind, List.map_toArray, List.map_nil, this, Result.andThen_ok, Sem.run_pure]
end
def k1 : List UInt8 := (List.replicate 32 0).set 0 1
set_option maxRecDepth 100000 in
set_option maxHeartbeats 2000000 in
theorem BoxNone_walk (W : World) : Calls Try.prog 5 #[] W fun e w' => e = .returned (.bool true) ∧ No W w' := by
  have H := St.nil (fun _ => False) W
  have B0 := BOk.new 1 (by omega)
  refine q_enter Try.func5 rfl rfl ?_
  refine go_W H ?_; clear H; intro w H
  refine q_buildB1 (b := 1) ?_
  change LW _ _ _ _ _ (upd _ _ (.agg (bs k1).toArray)) _
  have hk1 : (bs k1).length = 32 := rfl
  refine q_alloc H ?_; clear H; intro g2 w H
  refine go_W H ?_; clear H; intro w H
  refine q_call (Open_nil k1 1 (.slice none 0 0) (.slice none 0 0) _ rfl) ?_; rintro _ w1 ⟨rfl, hNo⟩; replace H := H.no hNo; clear hNo; refine ⟨_, rfl, ?_⟩
  refine go_W H ?_; clear H; intro w H
  refine q_tri H (TNew_any 1 _) ?_; clear H; rintro _ _ w ⟨gt, rfl, rfl⟩ H
  refine q_tri H (BNew_ideal ⟨gt, 0, none⟩ _) ?_; clear H; rintro _ _ w ⟨gx, gs, gm, gl, rfl, rfl⟩ H
  refine go_W H ?_; clear H; intro w H
  refine q_tri H (BNew_real none _) ?_; clear H; rintro _ _ w ⟨g1, gs1, gm1, gl1, rfl, rfl⟩ H
  refine go_W H ?_; clear H; intro w H
  replace H : St _ _ (cells g2 (bs k1) 34 :: BXl gx gt gs gm gl 1 0 0 (.slice none 0 0) [] [] []) _ := H.sub (by repeat (first | exact Sub.nil | apply Sub.cons | exact Take.z | apply Take.s))
  replace H := H.drew
  refine r_start (Hold [(g2, .cells (bs k1).toArray 34 (0, 0))]) 9 rfl holdS ?_
  refine r_takeX 0 ?_; refine r_takeX 1 ?_
  refine r_op 2 rfl ?_
  refine q_makeB H ?_; clear H; intro gz w H
  refine q_nil ?_; refine r_nextS ?_
  refine r_op 3 rfl ?_
  refine q_call (Open_neg ⟨g1, 0, none⟩ k1 (-1) (.slice none 0 0) (.slice (some ⟨gz, 0, none⟩) 16 16) _ rfl (by omega)) ?_; rintro _ w1 ⟨rfl, hNo⟩; replace H := H.no hNo; clear hNo; refine ⟨_, rfl, ?_⟩
  refine q_nil ?_; refine r_nextS ?_
  refine r_takeX 4 ?_; refine r_takeX 5 ?_; refine r_takeX 6 ?_; refine r_takeX 7 ?_; refine r_takeX 8 ?_
  refine r_done ?_
  refine go_W H ?_; clear H; intro w H
  replace H : St _ _ (cells g2 (bs k1) 34 :: BXl gx gt gs gm gl 1 0 0 (.slice none 0 0) [] [] []) _ := H.sub (by repeat (first | exact Sub.nil | apply Sub.cons | exact Take.z | apply Take.s))
  replace H := H.drew
  refine r_start (Hold [(g2, .cells (bs k1).toArray 34 (0, 0))]) 65 rfl holdS ?_
  refine r_op 0 rfl ?_
  refine q_call (begun8_any _) ?_; rintro _ w1 ⟨rfl, hNo⟩; replace H := H.no hNo; clear hNo; refine ⟨_, rfl, ?_⟩
  refine q_nil ?_; refine r_nextS ?_
  refine r_takeX 1 ?_; refine r_takeX 2 ?_; refine r_takeX 3 ?_
  refine r_op 4 rfl ?_
  refine q_call (Seal_nil k1 1 (.slice none 0 0) (.slice none 0 0) _ rfl) ?_; rintro _ w1 ⟨rfl, hNo⟩; replace H := H.no hNo; clear hNo; refine ⟨_, rfl, ?_⟩
  refine q_nil ?_; refine r_nextS ?_
  refine r_op 5 rfl ?_
  refine q_snil_eq_t ?_
  refine q_nil ?_; refine r_nextS ?_
  refine r_takeX 6 ?_; refine r_takeX 7 ?_; refine r_takeX 8 ?_; refine r_takeX 9 ?_; refine r_takeX 10 ?_; refine r_takeX 11 ?_; refine r_takeX 12 ?_; refine r_takeX 13 ?_
  refine r_take 15 rfl rfl (fun w hS => x_buildB0) ?_
  refine r_op 14 rfl ?_
  refine q_call (Mark_nil k1 (.slice none 0 0) _ rfl) ?_; rintro _ w1 ⟨rfl, hNo⟩; replace H := H.no hNo; clear hNo; refine ⟨_, rfl, ?_⟩
  refine q_nil ?_; refine r_nextS ?_
  refine r_op 16 rfl ?_
  refine q_weq_t (Kv_bytes (List.replicate 32 0) rfl) (Kv_bytes (List.replicate 32 0) rfl) rfl ?_
  refine q_nil ?_; refine r_nextS ?_
  refine r_takeX 17 ?_; refine r_takeX 18 ?_; refine r_takeX 19 ?_; refine r_takeX 20 ?_
  refine r_take 21 rfl rfl (fun w hS => x_buildB0) ?_
  refine r_op 22 rfl ?_
  refine q_call (Is_nil k1 (List.replicate 32 0) (.slice none 0 0) _ rfl rfl) ?_; rintro _ w1 ⟨rfl, hNo⟩; replace H := H.no hNo; clear hNo; refine ⟨_, rfl, ?_⟩
  refine q_nil ?_; refine r_nextS ?_
  refine r_takeX 23 ?_; refine r_takeX 24 ?_; refine r_takeX 25 ?_; refine r_takeX 26 ?_; refine r_takeX 27 ?_
  refine r_take 29 rfl rfl (fun w hS => x_buildB0) ?_
  refine r_op 28 rfl ?_
  refine q_call (Label_nil k1 _ _ rfl) ?_; rintro _ w1 ⟨rfl, hNo⟩; replace H := H.no hNo; clear hNo; refine ⟨_, rfl, ?_⟩
  refine q_nil ?_; refine r_nextS ?_
  refine r_op 30 rfl ?_
  refine q_weq_t (Kv_bytes (List.replicate 32 0) rfl) (Kv_bytes (List.replicate 32 0) rfl) rfl ?_
  refine q_nil ?_; refine r_nextS ?_
  refine r_takeX 31 ?_; refine r_takeX 32 ?_; refine r_takeX 33 ?_; refine r_takeX 34 ?_
  refine r_op 35 rfl ?_
  refine q_call (Seal_neg ⟨gx, 0, none⟩ k1 (-1) (.slice none 0 0) (.slice none 0 0) _ rfl (by omega)) ?_; rintro _ w1 ⟨rfl, hNo⟩; replace H := H.no hNo; clear hNo; refine ⟨_, rfl, ?_⟩
  refine q_nil ?_; refine r_nextS ?_
  refine r_op 36 rfl ?_
  refine q_snil_eq_t ?_
  refine q_nil ?_; refine r_nextS ?_
  refine r_takeX 37 ?_; refine r_takeX 38 ?_; refine r_takeX 39 ?_; refine r_takeX 40 ?_
  refine r_op 41 rfl ?_
  refine q_makeB H ?_; clear H; intro gy w H
  refine q_nil ?_; refine r_nextS ?_
  refine r_op 42 rfl ?_
  refine q_triR H (Seal_long gx k1 0 (.slice none 0 0) (.slice (some ⟨gy, 0, none⟩) 3001 3001) (List.replicate 3001 0) (.pointer (some ⟨gt, 0, none⟩)) (.map (some gs)) (.map (some gm)) (.map (some gl)) _ rfl (by omega) (by rw [List.length_replicate]; omega)) ?_ (hr := Srcs.cons (Src.cell (by (repeat (first | exact Take.z | apply Take.s)); done) List.length_replicate (by omega)) Srcs.nil); clear H; rintro _ _ w ⟨rfl, rfl⟩ H
  refine q_nil ?_; refine r_nextS ?_
  refine r_op 43 rfl ?_
  refine q_snil_eq_t ?_
  refine q_nil ?_; refine r_nextS ?_
  refine r_takeX 44 ?_; refine r_takeX 45 ?_; refine r_takeX 46 ?_; refine r_takeX 47 ?_
  refine r_op 48 rfl ?_
  refine q_call (Seal_neg ⟨g1, 0, none⟩ k1 (-1) (.slice none 0 0) (.slice none 0 0) _ rfl (by omega)) ?_; rintro _ w1 ⟨rfl, hNo⟩; replace H := H.no hNo; clear hNo; refine ⟨_, rfl, ?_⟩
  refine q_nil ?_; refine r_nextS ?_
  refine r_op 49 rfl ?_
  refine q_snil_eq_t ?_
  refine q_nil ?_; refine r_nextS ?_
  refine r_takeX 50 ?_; refine r_takeX 51 ?_; refine r_takeX 52 ?_; refine r_takeX 53 ?_; refine r_takeX 54 ?_; refine r_takeX 55 ?_; refine r_takeX 56 ?_; refine r_takeX 57 ?_
  have RT := fun w => RTape_any 1 0 16 w (by omega) (by omega) (by omega)
  refine r_op 58 rfl ?_
  refine q_triR H (Seal_ideal 0 gx gt gs gm gl 1 0 0 (.slice none 0 0) [] [] [] k1 0 (.slice none 0 0) (.slice none 0 0) [] [] _ B0 (by omega) rfl (by omega) (by omega) (by simp) (by simp)) ?_ (hr := Srcs.cons Src.nil (Srcs.cons Src.nil Srcs.nil)); clear H; rintro vb _ w ⟨i1, v1, B1, rfl⟩ H
  replace H : St _ _ (cells g2 (bs k1) 34 :: [bsl vb (tp 1 0 16)]) _ := H.sub (by repeat (first | exact Sub.nil | apply Sub.cons | exact Take.z | apply Take.s))
  generalize tp 1 0 16 = cb at *
  refine q_nil ?_; refine r_nextS ?_
  refine r_two 59 60 rfl rfl ?_ ?_
  · refine q_str (H.rbB (v := vb) (by (repeat (first | exact Take.z | apply Take.s)); done)) ?_
    refine q_nil ?_; refine r_nextS ?_
    refine r_op 60 rfl ?_
    refine q_tri H (RT _) ?_; clear H; rintro v2 _ w ⟨rfl, _⟩ H
    refine q_nil ?_; refine r_nextS ?_
    refine r_op 61 rfl ?_
    refine q_str (H.rbR (v := v2) (by (repeat (first | exact Take.z | apply Take.s)); done)) ?_
    refine q_nil ?_; refine r_nextS ?_
    refine r_takeX 62 ?_; refine r_takeX 63 ?_; refine r_takeX 64 ?_
    refine r_done ?_
    refine go_W H ?_; clear H; intro w H
    exact ret1 rfl rv_tmp ⟨rfl, H.fr⟩
  · refine q_tri H (RT _) ?_; clear H; rintro v2 _ w ⟨rfl, _⟩ H
    refine q_nil ?_; refine r_nextS ?_
    refine r_two 59 61 rfl rfl ?_ ?_
    · refine q_str (H.rbB (v := vb) (by (repeat (first | exact Take.z | apply Take.s)); done)) ?_
      refine q_nil ?_; refine r_nextS ?_
      refine r_op 61 rfl ?_
      refine q_str (H.rbR (v := v2) (by (repeat (first | exact Take.z | apply Take.s)); done)) ?_
      refine q_nil ?_; refine r_nextS ?_
      refine r_takeX 62 ?_; refine r_takeX 63 ?_; refine r_takeX 64 ?_
      refine r_done ?_
      refine go_W H ?_; clear H; intro w H
      exact ret1 rfl rv_tmp ⟨rfl, H.fr⟩
    · refine q_str (H.rbR (v := v2) (by (repeat (first | exact Take.z | apply Take.s)); done)) ?_
      refine q_nil ?_; refine r_nextS ?_
      refine r_op 59 rfl ?_
      refine q_str (H.rbB (v := vb) (by (repeat (first | exact Take.z | apply Take.s)); done)) ?_
      refine q_nil ?_; refine r_nextS ?_
      refine r_takeX 62 ?_; refine r_takeX 63 ?_; refine r_takeX 64 ?_
      refine r_done ?_
      refine go_W H ?_; clear H; intro w H
      exact ret1 rfl rv_tmp ⟨rfl, H.fr⟩
end Go.Proofs.Ytamkekmaahnbcaa
