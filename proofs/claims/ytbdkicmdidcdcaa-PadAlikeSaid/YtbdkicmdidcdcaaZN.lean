/-
  The beginning of layer 8.
-/
import Derived.Test.YtbdkicmdidcdcaaZM
import Derived.Test.YtbdkicmdidcdcaaZI
namespace Go.Proofs.Ytbdkicmdidcdcaa
open Go.RowKit

def k7 : List UInt8 := (List.replicate 32 0).set 0 7
theorem tp8 : tp 1 17 32 ≠ tp 1 49 32 := by decide +kernel
set_option maxRecDepth 100000 in
set_option maxHeartbeats 2000000 in
theorem begun8_any (W : World) : Calls Try.prog 49 #[] W fun e w' => e = .returned (.bool true) ∧ No W w' := by
  have H := St.nil (fun _ => False) W
  have B0 := BOk.new 1 (by omega)
  refine q_enter Try.func49 rfl rfl ?_
  refine go_W H ?_; clear H; intro w H
  refine q_tri H (BNew_real none _) ?_; clear H; rintro _ _ w ⟨g1, gs1, gm1, gl1, rfl, rfl⟩ H
  replace H : St _ _ [cells g1 [.int .i64 0, .pointer none, .map (some gs1), .map (some gm1), .map (some gl1)] 74] _ := H.sub (by repeat (first | exact Sub.nil | apply Sub.cons | exact Take.z | apply Take.s))
  refine go_W H ?_; clear H; intro w H
  refine q_tri H (TNew_any 1 _) ?_; clear H; rintro _ _ w ⟨gt, rfl, rfl⟩ H
  refine q_tri H (BNew_ideal ⟨gt, 0, none⟩ _) ?_; clear H; rintro _ _ w ⟨gx, gs, gm, gl, rfl, rfl⟩ H
  refine go_W H ?_; clear H; intro w H
  refine q_tri H (TNew_any 1 _) ?_; clear H; rintro _ _ w ⟨gt2, rfl, rfl⟩ H
  refine q_call (BNew_two _ _) ?_; rintro _ w1 ⟨rfl, hNo⟩; replace H := H.no hNo; clear hNo; refine ⟨_, rfl, ?_⟩
  refine go_W H ?_; clear H; intro w H
  refine q_call (BNew_nil _) ?_; rintro _ w1 ⟨rfl, hNo⟩; replace H := H.no hNo; clear hNo; refine ⟨_, rfl, ?_⟩
  refine go_W H ?_; clear H; intro w H
  replace H : St _ _ (BXl gx gt gs gm gl 1 0 0 (.slice none 0 0) [] [] [] ++ [cells g1 [.int .i64 0, .pointer none, .map (some gs1), .map (some gm1), .map (some gl1)] 74]) _ := H.sub (by repeat (first | exact Sub.nil | apply Sub.cons | exact Take.z | apply Take.s))
  refine q_buildB1 (b := 7) ?_
  change LW _ _ _ _ _ (upd _ _ (.agg (bs k7).toArray)) _
  have hk7 : (bs k7).length = 32 := rfl
  refine q_alloc H ?_; clear H; intro g3 w H
  refine go_W H ?_; clear H; intro w H
  obtain ⟨sb, hsb⟩ : ∃ x, aseal k7 (nonce 3) [] [120] = x := ⟨_, rfl⟩
  have hsl : sb.length = 17 := by rw [← hsb, aseal_length]; rfl
  have hop : aopen k7 (nonce 3) [] sb = some [120] := by rw [← hsb]; exact aopen_seal _ _ _ _
  have SR := fun g w => Seal_real g1 k7 3 (.slice none 0 0) (.slice (some ⟨g, 0, none⟩) 1 1) [] [120] (.pointer none) (.map (some gs1)) (.map (some gm1)) (.map (some gl1)) w rfl (by omega) (by simp) (by simp)
  rw [hsb] at SR
  refine q_merge (X := Value × Value × Nat × Value) (fun x => [(1, .pointer (some ⟨g1, 0, none⟩)), (2, .pointer (some ⟨gx, 0, none⟩)), (3, .pointer (some ⟨g3, 0, none⟩)), (4, x.1), (5, x.2.1)])
    (fun x w => BOk 1 1 x.2.2.1 17 (mput [] (k7, 3, [], tp 1 0 17) [120]) [] [] ∧ St (fun _ => False) W (bsl x.2.1 (tp 1 0 17) :: bsl x.1 sb :: cells g3 (bs k7) 26 :: cells g1 [.int .i64 0, .pointer none, .map (some gs1), .map (some gm1), .map (some gl1)] 74 :: BXl gx gt gs gm gl 1 x.2.2.1 17 x.2.2.2 (mput [] (k7, 3, [], tp 1 0 17) [120]) [] []) w) ?_ ?_
  · replace H := H.drew
    refine r_start (Hold [(g3, .cells (bs k7).toArray 26 (0, 0))]) 12 rfl holdS ?_
    refine r_takeX 0 ?_; refine r_takeX 1 ?_; refine r_takeX 5 ?_; refine r_takeX 6 ?_
    refine r_two 2 7 rfl rfl ?_ ?_
    · refine q_constB [120] H ?_; clear H; intro ga w H
      refine q_nil ?_; refine r_nextS ?_
      refine r_two 3 7 rfl rfl ?_ ?_
      · refine q_markC (g := ga) H ?_; clear H; intro w H
        refine q_nil ?_; refine r_nextS ?_
        refine r_two 4 7 rfl rfl ?_ ?_
        · refine q_triR H (SR ga _) ?_ (hr := Srcs.cons Src.nil (Srcs.cons (Src.cell (by (repeat (first | exact Take.z | apply Take.s)); done) rfl (by omega)) Srcs.nil)); clear H; rintro va _ w rfl H
          refine q_nil ?_; refine r_nextS ?_
          refine r_op 7 rfl ?_
          refine q_constB [120] H ?_; clear H; intro gb w H
          refine q_nil ?_; refine r_nextS ?_
          refine r_op 8 rfl ?_
          refine q_markC (g := gb) H ?_; clear H; intro w H
          refine q_nil ?_; refine r_nextS ?_
          refine r_op 9 rfl ?_
          refine q_triR H (Seal_ideal 0 gx gt gs gm gl 1 0 0 (.slice none 0 0) [] [] [] k7 3 (.slice none 0 0) (.slice (some ⟨gb, 0, none⟩) 1 1) [] [120] _ B0 (by omega) rfl (by omega) (by omega) (by simp) (by simp)) ?_ (hr := Srcs.cons Src.nil (Srcs.cons (Src.cell (by (repeat (first | exact Take.z | apply Take.s)); done) rfl (by omega)) Srcs.nil)); clear H; rintro vb _ w ⟨i1, v1, B1, rfl⟩ H
          refine q_nil ?_; refine r_nextS ?_
          refine r_takeX 10 ?_; refine r_takeX 11 ?_
          refine r_done ?_
          exact ⟨(va, vb, i1, v1), ⟨rfl, rfl, rfl, rfl, rfl, trivial⟩, B1, H.sub (by repeat (first | exact Sub.nil | apply Sub.cons | exact Take.z | apply Take.s))⟩
        · refine q_constB [120] H ?_; clear H; intro gb w H
          refine q_nil ?_; refine r_nextS ?_
          refine r_two 4 8 rfl rfl ?_ ?_
          · refine q_triR H (SR ga _) ?_ (hr := Srcs.cons Src.nil (Srcs.cons (Src.cell (by (repeat (first | exact Take.z | apply Take.s)); done) rfl (by omega)) Srcs.nil)); clear H; rintro va _ w rfl H
            refine q_nil ?_; refine r_nextS ?_
            refine r_op 8 rfl ?_
            refine q_markC (g := gb) H ?_; clear H; intro w H
            refine q_nil ?_; refine r_nextS ?_
            refine r_op 9 rfl ?_
            refine q_triR H (Seal_ideal 0 gx gt gs gm gl 1 0 0 (.slice none 0 0) [] [] [] k7 3 (.slice none 0 0) (.slice (some ⟨gb, 0, none⟩) 1 1) [] [120] _ B0 (by omega) rfl (by omega) (by omega) (by simp) (by simp)) ?_ (hr := Srcs.cons Src.nil (Srcs.cons (Src.cell (by (repeat (first | exact Take.z | apply Take.s)); done) rfl (by omega)) Srcs.nil)); clear H; rintro vb _ w ⟨i1, v1, B1, rfl⟩ H
            refine q_nil ?_; refine r_nextS ?_
            refine r_takeX 10 ?_; refine r_takeX 11 ?_
            refine r_done ?_
            exact ⟨(va, vb, i1, v1), ⟨rfl, rfl, rfl, rfl, rfl, trivial⟩, B1, H.sub (by repeat (first | exact Sub.nil | apply Sub.cons | exact Take.z | apply Take.s))⟩
          · refine q_markC (g := gb) H ?_; clear H; intro w H
            refine q_nil ?_; refine r_nextS ?_
            refine r_op 4 rfl ?_
            refine q_triR H (SR ga _) ?_ (hr := Srcs.cons Src.nil (Srcs.cons (Src.cell (by (repeat (first | exact Take.z | apply Take.s)); done) rfl (by omega)) Srcs.nil)); clear H; rintro va _ w rfl H
            refine q_nil ?_; refine r_nextS ?_
            refine r_op 9 rfl ?_
            refine q_triR H (Seal_ideal 0 gx gt gs gm gl 1 0 0 (.slice none 0 0) [] [] [] k7 3 (.slice none 0 0) (.slice (some ⟨gb, 0, none⟩) 1 1) [] [120] _ B0 (by omega) rfl (by omega) (by omega) (by simp) (by simp)) ?_ (hr := Srcs.cons Src.nil (Srcs.cons (Src.cell (by (repeat (first | exact Take.z | apply Take.s)); done) rfl (by omega)) Srcs.nil)); clear H; rintro vb _ w ⟨i1, v1, B1, rfl⟩ H
            refine q_nil ?_; refine r_nextS ?_
            refine r_takeX 10 ?_; refine r_takeX 11 ?_
            refine r_done ?_
            exact ⟨(va, vb, i1, v1), ⟨rfl, rfl, rfl, rfl, rfl, trivial⟩, B1, H.sub (by repeat (first | exact Sub.nil | apply Sub.cons | exact Take.z | apply Take.s))⟩
      · refine q_constB [120] H ?_; clear H; intro gb w H
        refine q_nil ?_; refine r_nextS ?_
        refine r_two 3 8 rfl rfl ?_ ?_
        · refine q_markC (g := ga) H ?_; clear H; intro w H
          refine q_nil ?_; refine r_nextS ?_
          refine r_two 4 8 rfl rfl ?_ ?_
          · refine q_triR H (SR ga _) ?_ (hr := Srcs.cons Src.nil (Srcs.cons (Src.cell (by (repeat (first | exact Take.z | apply Take.s)); done) rfl (by omega)) Srcs.nil)); clear H; rintro va _ w rfl H
            refine q_nil ?_; refine r_nextS ?_
            refine r_op 8 rfl ?_
            refine q_markC (g := gb) H ?_; clear H; intro w H
            refine q_nil ?_; refine r_nextS ?_
            refine r_op 9 rfl ?_
            refine q_triR H (Seal_ideal 0 gx gt gs gm gl 1 0 0 (.slice none 0 0) [] [] [] k7 3 (.slice none 0 0) (.slice (some ⟨gb, 0, none⟩) 1 1) [] [120] _ B0 (by omega) rfl (by omega) (by omega) (by simp) (by simp)) ?_ (hr := Srcs.cons Src.nil (Srcs.cons (Src.cell (by (repeat (first | exact Take.z | apply Take.s)); done) rfl (by omega)) Srcs.nil)); clear H; rintro vb _ w ⟨i1, v1, B1, rfl⟩ H
            refine q_nil ?_; refine r_nextS ?_
            refine r_takeX 10 ?_; refine r_takeX 11 ?_
            refine r_done ?_
            exact ⟨(va, vb, i1, v1), ⟨rfl, rfl, rfl, rfl, rfl, trivial⟩, B1, H.sub (by repeat (first | exact Sub.nil | apply Sub.cons | exact Take.z | apply Take.s))⟩
          · refine q_markC (g := gb) H ?_; clear H; intro w H
            refine q_nil ?_; refine r_nextS ?_
            refine r_op 4 rfl ?_
            refine q_triR H (SR ga _) ?_ (hr := Srcs.cons Src.nil (Srcs.cons (Src.cell (by (repeat (first | exact Take.z | apply Take.s)); done) rfl (by omega)) Srcs.nil)); clear H; rintro va _ w rfl H
            refine q_nil ?_; refine r_nextS ?_
            refine r_op 9 rfl ?_
            refine q_triR H (Seal_ideal 0 gx gt gs gm gl 1 0 0 (.slice none 0 0) [] [] [] k7 3 (.slice none 0 0) (.slice (some ⟨gb, 0, none⟩) 1 1) [] [120] _ B0 (by omega) rfl (by omega) (by omega) (by simp) (by simp)) ?_ (hr := Srcs.cons Src.nil (Srcs.cons (Src.cell (by (repeat (first | exact Take.z | apply Take.s)); done) rfl (by omega)) Srcs.nil)); clear H; rintro vb _ w ⟨i1, v1, B1, rfl⟩ H
            refine q_nil ?_; refine r_nextS ?_
            refine r_takeX 10 ?_; refine r_takeX 11 ?_
            refine r_done ?_
            exact ⟨(va, vb, i1, v1), ⟨rfl, rfl, rfl, rfl, rfl, trivial⟩, B1, H.sub (by repeat (first | exact Sub.nil | apply Sub.cons | exact Take.z | apply Take.s))⟩
        · refine q_markC (g := gb) H ?_; clear H; intro w H
          refine q_nil ?_; refine r_nextS ?_
          refine r_op 3 rfl ?_
          refine q_markC (g := ga) H ?_; clear H; intro w H
          refine q_nil ?_; refine r_nextS ?_
          refine r_op 4 rfl ?_
          refine q_triR H (SR ga _) ?_ (hr := Srcs.cons Src.nil (Srcs.cons (Src.cell (by (repeat (first | exact Take.z | apply Take.s)); done) rfl (by omega)) Srcs.nil)); clear H; rintro va _ w rfl H
          refine q_nil ?_; refine r_nextS ?_
          refine r_op 9 rfl ?_
          refine q_triR H (Seal_ideal 0 gx gt gs gm gl 1 0 0 (.slice none 0 0) [] [] [] k7 3 (.slice none 0 0) (.slice (some ⟨gb, 0, none⟩) 1 1) [] [120] _ B0 (by omega) rfl (by omega) (by omega) (by simp) (by simp)) ?_ (hr := Srcs.cons Src.nil (Srcs.cons (Src.cell (by (repeat (first | exact Take.z | apply Take.s)); done) rfl (by omega)) Srcs.nil)); clear H; rintro vb _ w ⟨i1, v1, B1, rfl⟩ H
          refine q_nil ?_; refine r_nextS ?_
          refine r_takeX 10 ?_; refine r_takeX 11 ?_
          refine r_done ?_
          exact ⟨(va, vb, i1, v1), ⟨rfl, rfl, rfl, rfl, rfl, trivial⟩, B1, H.sub (by repeat (first | exact Sub.nil | apply Sub.cons | exact Take.z | apply Take.s))⟩
    · refine q_constB [120] H ?_; clear H; intro gb w H
      refine q_nil ?_; refine r_nextS ?_
      refine r_two 2 8 rfl rfl ?_ ?_
      · refine q_constB [120] H ?_; clear H; intro ga w H
        refine q_nil ?_; refine r_nextS ?_
        refine r_two 3 8 rfl rfl ?_ ?_
        · refine q_markC (g := ga) H ?_; clear H; intro w H
          refine q_nil ?_; refine r_nextS ?_
          refine r_two 4 8 rfl rfl ?_ ?_
          · refine q_triR H (SR ga _) ?_ (hr := Srcs.cons Src.nil (Srcs.cons (Src.cell (by (repeat (first | exact Take.z | apply Take.s)); done) rfl (by omega)) Srcs.nil)); clear H; rintro va _ w rfl H
            refine q_nil ?_; refine r_nextS ?_
            refine r_op 8 rfl ?_
            refine q_markC (g := gb) H ?_; clear H; intro w H
            refine q_nil ?_; refine r_nextS ?_
            refine r_op 9 rfl ?_
            refine q_triR H (Seal_ideal 0 gx gt gs gm gl 1 0 0 (.slice none 0 0) [] [] [] k7 3 (.slice none 0 0) (.slice (some ⟨gb, 0, none⟩) 1 1) [] [120] _ B0 (by omega) rfl (by omega) (by omega) (by simp) (by simp)) ?_ (hr := Srcs.cons Src.nil (Srcs.cons (Src.cell (by (repeat (first | exact Take.z | apply Take.s)); done) rfl (by omega)) Srcs.nil)); clear H; rintro vb _ w ⟨i1, v1, B1, rfl⟩ H
            refine q_nil ?_; refine r_nextS ?_
            refine r_takeX 10 ?_; refine r_takeX 11 ?_
            refine r_done ?_
            exact ⟨(va, vb, i1, v1), ⟨rfl, rfl, rfl, rfl, rfl, trivial⟩, B1, H.sub (by repeat (first | exact Sub.nil | apply Sub.cons | exact Take.z | apply Take.s))⟩
          · refine q_markC (g := gb) H ?_; clear H; intro w H
            refine q_nil ?_; refine r_nextS ?_
            refine r_op 4 rfl ?_
            refine q_triR H (SR ga _) ?_ (hr := Srcs.cons Src.nil (Srcs.cons (Src.cell (by (repeat (first | exact Take.z | apply Take.s)); done) rfl (by omega)) Srcs.nil)); clear H; rintro va _ w rfl H
            refine q_nil ?_; refine r_nextS ?_
            refine r_op 9 rfl ?_
            refine q_triR H (Seal_ideal 0 gx gt gs gm gl 1 0 0 (.slice none 0 0) [] [] [] k7 3 (.slice none 0 0) (.slice (some ⟨gb, 0, none⟩) 1 1) [] [120] _ B0 (by omega) rfl (by omega) (by omega) (by simp) (by simp)) ?_ (hr := Srcs.cons Src.nil (Srcs.cons (Src.cell (by (repeat (first | exact Take.z | apply Take.s)); done) rfl (by omega)) Srcs.nil)); clear H; rintro vb _ w ⟨i1, v1, B1, rfl⟩ H
            refine q_nil ?_; refine r_nextS ?_
            refine r_takeX 10 ?_; refine r_takeX 11 ?_
            refine r_done ?_
            exact ⟨(va, vb, i1, v1), ⟨rfl, rfl, rfl, rfl, rfl, trivial⟩, B1, H.sub (by repeat (first | exact Sub.nil | apply Sub.cons | exact Take.z | apply Take.s))⟩
        · refine q_markC (g := gb) H ?_; clear H; intro w H
          refine q_nil ?_; refine r_nextS ?_
          refine r_op 3 rfl ?_
          refine q_markC (g := ga) H ?_; clear H; intro w H
          refine q_nil ?_; refine r_nextS ?_
          refine r_op 4 rfl ?_
          refine q_triR H (SR ga _) ?_ (hr := Srcs.cons Src.nil (Srcs.cons (Src.cell (by (repeat (first | exact Take.z | apply Take.s)); done) rfl (by omega)) Srcs.nil)); clear H; rintro va _ w rfl H
          refine q_nil ?_; refine r_nextS ?_
          refine r_op 9 rfl ?_
          refine q_triR H (Seal_ideal 0 gx gt gs gm gl 1 0 0 (.slice none 0 0) [] [] [] k7 3 (.slice none 0 0) (.slice (some ⟨gb, 0, none⟩) 1 1) [] [120] _ B0 (by omega) rfl (by omega) (by omega) (by simp) (by simp)) ?_ (hr := Srcs.cons Src.nil (Srcs.cons (Src.cell (by (repeat (first | exact Take.z | apply Take.s)); done) rfl (by omega)) Srcs.nil)); clear H; rintro vb _ w ⟨i1, v1, B1, rfl⟩ H
          refine q_nil ?_; refine r_nextS ?_
          refine r_takeX 10 ?_; refine r_takeX 11 ?_
          refine r_done ?_
          exact ⟨(va, vb, i1, v1), ⟨rfl, rfl, rfl, rfl, rfl, trivial⟩, B1, H.sub (by repeat (first | exact Sub.nil | apply Sub.cons | exact Take.z | apply Take.s))⟩
      · refine q_markC (g := gb) H ?_; clear H; intro w H
        refine q_nil ?_; refine r_nextS ?_
        refine r_op 2 rfl ?_
        refine q_constB [120] H ?_; clear H; intro ga w H
        refine q_nil ?_; refine r_nextS ?_
        refine r_op 3 rfl ?_
        refine q_markC (g := ga) H ?_; clear H; intro w H
        refine q_nil ?_; refine r_nextS ?_
        refine r_op 4 rfl ?_
        refine q_triR H (SR ga _) ?_ (hr := Srcs.cons Src.nil (Srcs.cons (Src.cell (by (repeat (first | exact Take.z | apply Take.s)); done) rfl (by omega)) Srcs.nil)); clear H; rintro va _ w rfl H
        refine q_nil ?_; refine r_nextS ?_
        refine r_op 9 rfl ?_
        refine q_triR H (Seal_ideal 0 gx gt gs gm gl 1 0 0 (.slice none 0 0) [] [] [] k7 3 (.slice none 0 0) (.slice (some ⟨gb, 0, none⟩) 1 1) [] [120] _ B0 (by omega) rfl (by omega) (by omega) (by simp) (by simp)) ?_ (hr := Srcs.cons Src.nil (Srcs.cons (Src.cell (by (repeat (first | exact Take.z | apply Take.s)); done) rfl (by omega)) Srcs.nil)); clear H; rintro vb _ w ⟨i1, v1, B1, rfl⟩ H
        refine q_nil ?_; refine r_nextS ?_
        refine r_takeX 10 ?_; refine r_takeX 11 ?_
        refine r_done ?_
        exact ⟨(va, vb, i1, v1), ⟨rfl, rfl, rfl, rfl, rfl, trivial⟩, B1, H.sub (by repeat (first | exact Sub.nil | apply Sub.cons | exact Take.z | apply Take.s))⟩
  clear H
  rintro ⟨va, vb, i1, v1⟩ ρ w ⟨B1, H⟩
  dsimp only at B1 H
  have hcl := tp_length 1 0 17
  generalize tp 1 0 17 = cb at *
  have OR := fun w => Open_real g1 k7 3 (.slice none 0 0) va [] sb (.pointer none) (.map (some gs1)) (.map (some gm1)) (.map (some gl1)) w rfl (by omega) (by simp) (by omega)
  rw [hop] at OR
  have eM : mput ([] : List (SK × List UInt8)) (k7, 3, [], cb) [120] = [((k7, 3, [], cb), [120])] := rfl
  rw [eM] at B1 H
  have OI := fun (n : Int) (h0 : 0 ≤ n) (h1 : n ≤ 9223372036854775807) w => Open_ideal 1 gx gt gs gm gl 1 i1 17 v1 [((k7, 3, [], cb), [120])] [] [] k7 n (.slice none 0 0) vb [] cb w B1 rfl h0 h1 (by simp) (by omega)
  have O3 := OI 3 (by omega) (by omega)
  have O4 := OI 4 (by omega) (by omega)
  clear OI
  rw [show mget [((k7, (3 : Int), ([] : List UInt8), cb), [(120 : UInt8)])] (k7, 3, [], cb) = some [120] from if_pos rfl] at O3
  rw [show mget [((k7, (3 : Int), ([] : List UInt8), cb), [(120 : UInt8)])] (k7, 4, [], cb) = none from if_neg (by simp)] at O4
  have MK := fun v w => Mark_ideal 1 gx gt gs gm gl 1 i1 17 v1 [((k7, 3, [], cb), [120])] [] [] k7 v [109] w B1 (by omega) rfl (by simp)
  rw [show bookOf 1 17 [] (k7, [109]) = (tp 1 17 32, 49, [((k7, [109]), tp 1 17 32)]) from rfl] at MK
  have hne := tp8
  have hml := tp_length 1 17 32
  have hll := tp_length 1 49 32
  have eL : bookOf 1 49 [] (k7, [109]) = (tp 1 49 32, 81, [((k7, [109]), tp 1 49 32)]) := rfl
  generalize tp 1 17 32 = m at *
  generalize tp 1 49 32 = lb at *
  dsimp only at MK
  have hml' : (bs m).length = 32 := by rw [bs_length, hml]
  replace H := H.take (R := cells g3 (bs k7) 26) (by (repeat (first | exact Take.z | apply Take.s)); done)
  refine go_W H ?_; clear H; intro w H
  refine q_triR H (OR _) ?_ (hr := Srcs.cons Src.nil (Srcs.cons (Src.own (by (repeat (first | exact Take.z | apply Take.s)); done)) Srcs.nil)); clear H; rintro _ _ w ⟨_, (⟨h, _⟩ | ⟨l, vo, h, rfl, rfl⟩), rfl⟩ H
  · cases h
  obtain rfl : [120] = l := by injection h
  clear h
  replace H := H.take (R := cells g3 (bs k7) 26) (by (repeat (first | exact Take.z | apply Take.s)); done)
  refine go_W H ?_; clear H; intro w H
  refine q_triR H (O3 _) ?_ (hr := Srcs.cons Src.nil (Srcs.cons (Src.own (v := vb) (by (repeat (first | exact Take.z | apply Take.s)); done)) Srcs.nil)); clear H; rintro _ _ w ⟨_, (⟨h, _⟩ | ⟨l, vi, h, rfl, rfl⟩), rfl⟩ H
  · cases h
  obtain rfl : [120] = l := by injection h
  clear h
  replace H := H.take (R := cells g3 (bs k7) 26) (by (repeat (first | exact Take.z | apply Take.s)); done)
  refine go_W H ?_; clear H; intro w H
  refine q_triR H (O4 _) ?_ (hr := Srcs.cons Src.nil (Srcs.cons (Src.own (v := vb) (by (repeat (first | exact Take.z | apply Take.s)); done)) Srcs.nil)); clear H; rintro _ _ w ⟨_, (⟨_, rfl, rfl⟩ | ⟨l, _, h, _⟩), rfl⟩ H
  rotate_left
  · cases h
  replace H : St _ _ (cells g3 (bs k7) 26 :: (BXl gx gt gs gm gl 1 i1 17 v1 [((k7, 3, [], cb), [120])] [] [] ++ [brd vo [120], brd vi [120], bsl va sb, bsl vb cb])) _ := H.sub (by repeat (first | exact Sub.nil | apply Sub.cons | exact Take.z | apply Take.s))
  refine go_W H ?_; clear H; intro w H
  refine q_constB [109] H ?_; clear H; intro gc w H
  refine go_W H ?_; clear H; intro w H
  refine q_markC (g := gc) H ?_; clear H; intro w H
  refine q_triR H (MK (.slice (some ⟨gc, 0, none⟩) 1 1) _) ?_ (hr := Srcs.cons (Src.cell (by (repeat (first | exact Take.z | apply Take.s)); done) rfl (by omega)) Srcs.nil); clear H; rintro _ _ w ⟨i2, v2, B2, rfl, rfl⟩ H
  refine q_alloc H ?_; clear H; intro g12 w H
  refine go_W H ?_; clear H; intro w H
  replace H : St _ _ (cells g3 (bs k7) 26 :: cells g12 (bs m) 26 :: bsl va sb :: bsl vb cb :: (BXl gx gt gs gm gl 1 i2 49 v2 [((k7, 3, [], cb), [120])] [((k7, [109]), m)] [] ++ [brd vo [120], brd vi [120]])) _ := H.sub (by repeat (first | exact Sub.nil | apply Sub.cons | exact Take.z | apply Take.s))
  have I1 := fun v w => Is_ideal 2 gx gt gs gm gl 1 i2 49 v2 [((k7, 3, [], cb), [120])] [((k7, [109]), m)] [] k7 m v [109] w B2 rfl hml (by simp)
  have I2 := fun v w => Is_ideal 2 gx gt gs gm gl 1 i2 49 v2 [((k7, 3, [], cb), [120])] [((k7, [109]), m)] [] k7 m v [110] w B2 rfl hml (by simp)
  rw [show mget [((k7, [(109 : UInt8)]), m)] (k7, [109]) = some m from if_pos rfl, decide_eq_true rfl] at I1
  rw [show mget [((k7, [(109 : UInt8)]), m)] (k7, [110]) = none from if_neg (by simp), decide_eq_false (by simp)] at I2
  have LB := fun w => Label_ideal 2 gx gt gs gm gl 1 i2 49 v2 [((k7, 3, [], cb), [120])] [((k7, [109]), m)] [] k7 [109] w B2 (by omega) rfl (by simp)
  rw [eL] at LB
  dsimp only at LB
  obtain ⟨aa, ac, rfl⟩ := RB.valN (H.rbB (v := va) (by (repeat (first | exact Take.z | apply Take.s)); done)) hsl
  obtain ⟨ba, bc, rfl⟩ := RB.valN (H.rbB (v := vb) (by (repeat (first | exact Take.z | apply Take.s)); done)) hcl
  obtain ⟨oa, oc, rfl⟩ := RB.valN (n := 1) (H.rbR (v := vo) (by (repeat (first | exact Take.z | apply Take.s)); done)) rfl
  obtain ⟨ia, ic, rfl⟩ := RB.valN (n := 1) (H.rbR (v := vi) (by (repeat (first | exact Take.z | apply Take.s)); done)) rfl
  clear O3 O4 OR SR MK hsb hop B0 B1
  replace H := H.drew
  refine r_start (Hold2 [(g3, .cells (bs k7).toArray 26 (0, 0)), (g12, .cells (bs m).toArray 26 (0, 0))] [(.slice oa 1 oc, [120]), (.slice ia 1 ic, [120])]) 59 rfl holdS ?_
  refine r_op 0 rfl ?_
  refine q_call (Begun4_any _) ?_; rintro _ w1 ⟨rfl, hNo⟩; replace H := H.no hNo; clear hNo; refine ⟨_, rfl, ?_⟩
  refine q_nil ?_; refine r_nextS ?_
  refine r_takeX 1 ?_
  refine r_op 2 rfl ?_
  refine q_call (Begun7_any _) ?_; rintro _ w1 ⟨rfl, hNo⟩; replace H := H.no hNo; clear hNo; refine ⟨_, rfl, ?_⟩
  refine q_nil ?_; refine r_nextS ?_
  refine r_takeX 3 ?_; refine r_takeX 4 ?_; refine r_takeX 5 ?_; refine r_takeX 6 ?_; refine r_takeX 7 ?_; refine r_takeX 8 ?_; refine r_takeX 9 ?_; refine r_takeX 10 ?_; refine r_takeX 11 ?_; refine r_takeX 12 ?_; refine r_takeX 13 ?_; refine r_takeX 14 ?_; refine r_takeX 15 ?_; refine r_takeX 16 ?_; refine r_takeX 17 ?_; refine r_takeX 18 ?_; refine r_takeX 19 ?_; refine r_takeX 20 ?_; refine r_takeX 21 ?_; refine r_takeX 22 ?_; refine r_takeX 23 ?_; refine r_takeX 24 ?_; refine r_takeX 25 ?_; refine r_takeX 26 ?_; refine r_takeX 27 ?_; refine r_takeX 28 ?_; refine r_takeX 29 ?_; refine r_takeX 30 ?_; refine r_takeX 31 ?_; refine r_takeX 32 ?_; refine r_takeX 33 ?_; refine r_takeX 34 ?_; refine r_takeX 35 ?_; refine r_takeX 36 ?_; refine r_takeX 39 ?_
  refine r_op 37 rfl ?_
  refine q_constB [109] H ?_; clear H; intro gd w H
  refine q_nil ?_; refine r_nextS ?_
  refine r_op 38 rfl ?_
  refine q_markC (g := gd) H ?_; clear H; intro w H
  refine q_nil ?_; refine r_nextS ?_
  refine r_op 40 rfl ?_
  refine q_triR H (I1 (.slice (some ⟨gd, 0, none⟩) 1 1) _) ?_ (hr := Srcs.cons (Src.cell (by (repeat (first | exact Take.z | apply Take.s)); done) rfl (by omega)) Srcs.nil); clear H; rintro _ _ w ⟨rfl, rfl⟩ H
  refine q_nil ?_; refine r_nextS ?_
  refine r_takeX 41 ?_; refine r_takeX 42 ?_; refine r_takeX 43 ?_; refine r_takeX 44 ?_; refine r_takeX 47 ?_
  refine r_op 45 rfl ?_
  refine q_constB [110] H ?_; clear H; intro ge w H
  refine q_nil ?_; refine r_nextS ?_
  refine r_op 46 rfl ?_
  refine q_markC (g := ge) H ?_; clear H; intro w H
  refine q_nil ?_; refine r_nextS ?_
  refine r_op 48 rfl ?_
  refine q_triR H (I2 (.slice (some ⟨ge, 0, none⟩) 1 1) _) ?_ (hr := Srcs.cons (Src.cell (by (repeat (first | exact Take.z | apply Take.s)); done) rfl (by omega)) Srcs.nil); clear H; rintro _ _ w ⟨rfl, rfl⟩ H
  refine q_nil ?_; refine r_nextS ?_
  refine r_takeX 49 ?_; refine r_takeX 50 ?_; refine r_takeX 51 ?_; refine r_takeX 52 ?_; refine r_takeX 53 ?_; refine r_takeX 55 ?_
  refine r_op 54 rfl ?_
  refine q_tri H (LB _) ?_; clear H; rintro _ _ w ⟨i3, v3, B3, rfl, rfl⟩ H
  refine q_nil ?_; refine r_nextS ?_
  refine r_op 56 rfl ?_
  refine q_wne_t (Kv_bytes lb hll) (Kv_bytes m hml) (fun x => hne (bs_inj (agg_inj x)).symm) ?_
  refine q_nil ?_; refine r_nextS ?_
  refine r_takeX 57 ?_; refine r_takeX 58 ?_
  refine r_done ?_
  refine go_W H ?_; clear H; intro w H
  exact ret1 rfl rv_tmp ⟨rfl, H.fr⟩
set_option maxRecDepth 100000 in
theorem Begun8_any (w : World) : Calls Try.prog 36 #[] w fun e w' => e = .returned (.bool true) ∧ No w w' := by
  have H := St.nil (fun _ => False) w
  refine q_enter Try.func36 rfl rfl ?_
  refine go_W H ?_; clear H; intro w H
  refine q_call (begun8_any _) ?_; rintro _ w1 ⟨rfl, hNo⟩; replace H := H.no hNo; clear hNo; refine ⟨_, rfl, ?_⟩
  refine go_W H ?_; clear H; intro w H
  exact ret1 rfl rv_tmp ⟨rfl, H.fr⟩
end Go.Proofs.Ytbdkicmdidcdcaa
