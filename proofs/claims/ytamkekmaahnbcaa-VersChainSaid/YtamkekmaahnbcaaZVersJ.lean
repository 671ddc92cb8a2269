/-
  VersChain, walked.
-/
import Derived.Test.YtamkekmaahnbcaaZVersI
import Derived.Test.YtamkekmaahnbcaaZQ
import Derived.Test.YtamkekmaahnbcaaZI
namespace Go.Proofs.Ytamkekmaahnbcaa
open Go.RowKit

theorem cby (i : Nat) : IntKind.u8.wrap (i : Int) = by8 (UInt8.ofNat i) := by
  rw [IntKind.wrap_u8']
  unfold by8
  rw [UInt8.toNat_ofNat']
  simp
theorem Kv_i64s {t n e : Nat} {P : Program} [hd : DeepOf P t] [h : ArrOf P t n e 1] [he : IntOf P e .i64] [ha : AggOf P t n] (l : List Int) (hl : l.length = n) (hb : ∀ z ∈ l, In64 z) : Kv P t (.agg (l.map (Value.int .i64)).toArray) := by
  obtain ⟨D, hD⟩ : ∃ D, P.types.size = D + 1 := ⟨P.types.size - 1, by have := hd.big; omega⟩
  refine Kv.of hD (kl_arr D _ (by rw [List.length_map, hl]) fun v hv => ?_) (by rw [List.length_map, ha.cellsOf, hl])
  obtain ⟨z, hz, rfl⟩ := List.mem_map.1 hv
  exact kl_i64 _ z (hb z hz).1 (hb z hz).2
abbrev I4.l (v : I4) : List Int := [v.a, v.b, v.c, v.d]
theorem vstep_n (v : V) (who e : Int) (r : UInt8) : (vstep v who e r).n = v.vec.get who + 1 := rfl
theorem vstep_vec (v : V) (who e : Int) (r : UInt8) : (vstep v who e r).vec = v.vec.bump who := rfl
theorem V.ones (u : V) : ∀ x ∈ cat u.ss, x.oneCell' = true := fun x hx => by
  obtain ⟨s, hs, hx⟩ := List.mem_flatten.1 hx
  revert s
  simp only [List.forall_mem_cons]
  refine ⟨?_, ?_, ?_, ?_, ?_, ?_, ?_, ?_, fun _ h => (List.not_mem_nil h).elim⟩
  all_goals
    intro hx
    first
      | exact bs_one _ hx
      | (simp only [List.mem_cons, List.not_mem_nil, or_false] at hx; rcases hx with rfl | rfl | rfl | rfl <;> rfl)
      | (simp only [List.mem_cons, List.not_mem_nil, or_false] at hx; subst hx; rfl)
def elsV (all : List V) : List (List Value) := all.map fun v => cat v.ss
theorem elsV_len (all : List V) : ∀ x ∈ elsV all, x.length = 104 := fun x hx => by
  obtain ⟨v, _, rfl⟩ := List.mem_map.1 hx
  exact (cat_len (ss := v.ss) SegsOf.out).trans rfl
/-- A round of the inner loop, and what is behind it, once the new structure u stands at g11. -/
structure ChI (W : World) (g7 g8 : Nat) (x : Nat × V × List V × Value) (w : World) : Prop where
  st : St (fun _ => False) W [esl 104 x.2.2.2 (elsV x.2.2.1), cells g8 (i64s x.2.1.vec.l) 53, cells g7 (cat x.2.1.ss) 55] w
  i : x.1 ≤ 15
  len : x.2.2.1.length = x.1
  ch : Chain x.2.2.1
  vb : VB (x.1 : Nat) x.2.1
theorem I4.bump_get (v : I4) (who : Int) (h : 1 ≤ who ∧ who ≤ 4) : (v.bump who).get who = v.get who + 1 := by
  obtain rfl | rfl | rfl | rfl : who = 1 ∨ who = 2 ∨ who = 3 ∨ who = 4 := by omega
  all_goals (unfold I4.bump I4.get; simp)
theorem I4.l_get (v : I4) (who : Int) (h : 1 ≤ who ∧ who ≤ 4) : (i64s v.l)[(who - 1).toNat]? = some (.int .i64 (v.get who)) := by
  obtain rfl | rfl | rfl | rfl : who = 1 ∨ who = 2 ∨ who = 3 ∨ who = 4 := by omega
  all_goals rfl
set_option maxRecDepth 100000 in
set_option maxHeartbeats 8000000 in
theorem VersChain_walk (v0 v1 : Value) (zs : List Int) (bl : List Bool) (W : World) (hl : Rd 1 W v0 zs.length (zs.map (Value.int .i64))) (hb : Rd 1 W v1 bl.length (bl.map Value.bool)) :
    Calls Try.prog 8 #[v0, v1] W fun e w' => e = .returned (.bool true) ∧ No W w' := by
  have H := St.nil (fun _ => False) W
  obtain ⟨a0, c0, rfl⟩ := hl.form
  obtain ⟨a1, c1, rfl⟩ := hb.form
  refine q_enter Try.func8 rfl rfl ?_
  refine go_R H ?_; clear H; intro w H
  refine q_call (begun14_any _) ?_; rintro _ w1 ⟨rfl, hNo⟩; replace H := H.no hNo; clear hNo; refine ⟨_, rfl, ?_⟩
  refine go_R H ?_; clear H; intro w H
  refine q_buildR V.zero.ss ?_
  refine go_R H ?_; clear H; intro w H
  refine q_alloc H ?_; clear H; intro g7 w H
  obtain ⟨vz, hvz⟩ : ∃ v, V.zero = v := ⟨_, rfl⟩
  rw [hvz]
  refine go_R H ?_; clear H; intro w H
  refine q_alloc H ?_; clear H; intro g8 w H
  refine go_R H ?_; clear H; intro w H
  have hvb : VB 0 vz := hvz ▸ VB.zero
  have hvec : i64s vz.vec.l = [.int .i64 0, .int .i64 0, .int .i64 0, .int .i64 0] := by rw [← hvz]; rfl
  replace H : St (fun _ => False) W [esl 104 (.slice none 0 0) (elsV []), cells g8 (i64s vz.vec.l) 53, cells g7 (cat vz.ss) 55] w := by
    rw [hvec]
    exact H.nilSl 104
  refine q_loop (fun x : Nat × V × List V × Value => [(0, .slice a0 zs.length c0), (1, .slice a1 bl.length c1), (6, x.2.2.2), (7, .pointer (some ⟨g7, 0, none⟩)), (8, .pointer (some ⟨g8, 0, none⟩)), (9, .int .i64 x.1)])
    (ChI W g7 g8) (fun x => 15 - x.1) (0, vz, [], .slice none 0 0) (by exact ⟨rfl, rfl, rfl, rfl, rfl, rfl, trivial⟩) ⟨H, by dsimp only; omega, rfl, fun k v h => by simp at h, hvb⟩ ?_
  clear H hvec hvb
  rintro ⟨i, last, all, va⟩ ρ w ⟨H, hi, hal, hch, hvb⟩
  dsimp only at H hi hal hch hvb
  obtain ⟨aa, ac, rfl⟩ := (H.slc (by (repeat (first | exact Take.z | apply Take.s)); done)).rd.form
  by_cases h1 : i < zs.length
  rotate_left
  · refine go_R H ?_; clear H; intro w H
    exact ret1 rfl rv_tmp ⟨rfl, H.fr⟩
  by_cases h2 : i < 15
  rotate_left
  · refine go_R H ?_; clear H; intro w H
    exact ret1 rfl rv_tmp ⟨rfl, H.fr⟩
  obtain ⟨g0, o0, rfl⟩ := hl.some' (by omega)
  refine go_R H ?_; clear H; intro w H
  have hzi : (zs.map (Value.int .i64))[i]? = some (.int .i64 zs[i]) := by simp [h1]
  refine q_loadC ?_ (Rd.cellAt (hl.no H.fr) i _ hzi)
  obtain ⟨r1, hr1⟩ : ∃ r, (zs[i]).tmod 4 = r := ⟨_, rfl⟩
  have hbd := tmod_bd zs[i] 4 (by omega)
  rw [hr1] at hbd
  refine go_R H ?_; clear H; intro w H
  refine q_remW ?_ hr1
  refine go_R H ?_; clear H; intro w H
  obtain ⟨who, hwho⟩ : ∃ x, 1 + (r1 + 4) % 4 = x := ⟨_, rfl⟩
  rw [hwho]
  have hw : 1 ≤ who ∧ who ≤ 4 := by omega
  have hsm := hvb.sm (by omega) (by omega)
  have NX := fun w => Next_good last who w hsm hw
  obtain ⟨v, hv⟩ : ∃ v, vnext last who = v := ⟨_, rfl⟩
  rw [hv] at NX
  have v1 : v.epoch = last.epoch := by rw [← hv]; rfl
  have v2 : v.root = last.root := by rw [← hv]; rfl
  refine q_call (NX _) ?_; rintro _ w1 ⟨rfl, hNo⟩; replace H := H.no hNo; clear hNo; refine ⟨_, rfl, ?_⟩
  refine go_R H ?_; clear H; intro w H
  refine q_alloc H ?_; clear H; intro g11 w H
  refine q_storeRW (g := g11) (ss' := v.ss) H ?_; clear H; intro w H
  refine q_nil ?_
  refine q_then ?_
  refine q_seq ?_
  clear hwho
  have e1 := hvb.a
  have e2 := hvb.b
  have e3 := hvb.c
  have e4 := hvb.d
  have e5 := hvb.epoch
  obtain ⟨vv, hvv⟩ : ∃ x, last.vec.bump who = x := ⟨_, rfl⟩
  have hvg := I4.bump_get last.vec who hw
  have hvl := I4.l_get vv who hw
  rw [hvv] at hvg
  have hcb := cby i
  refine q_merge (X := Unit) (fun _ => [(0, .slice (some ⟨g0, o0, none⟩) zs.length c0), (1, .slice a1 bl.length c1), (6, .slice aa (elsV all).length ac), (7, .pointer (some ⟨g7, 0, none⟩)), (8, .pointer (some ⟨g8, 0, none⟩)), (9, .int .i64 i), (10, .int .i64 who), (11, .pointer (some ⟨g11, 0, none⟩))])
    (fun _ w => St (fun _ => False) W [cells g11 (cat v.ss) 55, esl 104 (.slice aa (elsV all).length ac) (elsV all), cells g8 (i64s vv.l) 53, cells g7 (cat last.ss) 55] w) ?_ ?_
  · obtain ⟨wq, hwq⟩ : ∃ x, who = x := ⟨_, rfl⟩
    obtain rfl | rfl | rfl | rfl : who = 1 ∨ who = 2 ∨ who = 3 ∨ who = 4 := by omega
    all_goals
      refine go_R H ?_; clear H; intro w H
      exact ⟨(), ⟨rfl, rfl, rfl, rfl, rfl, rfl, rfl, rfl, trivial⟩, by subst hvv; exact H.sub (by repeat (first | exact Sub.nil | apply Sub.cons | exact Take.z | apply Take.s))⟩
  clear H
  rintro ⟨⟩ ρ w H
  refine q_then ?_
  refine q_seq ?_
  refine q_merge (X := Int) (fun _ => [(0, .slice (some ⟨g0, o0, none⟩) zs.length c0), (1, .slice a1 bl.length c1), (6, .slice aa (elsV all).length ac), (7, .pointer (some ⟨g7, 0, none⟩)), (8, .pointer (some ⟨g8, 0, none⟩)), (9, .int .i64 i), (10, .int .i64 who), (11, .pointer (some ⟨g11, 0, none⟩))])
    (fun e w => (e = 0 ∨ e = 1) ∧ St (fun _ => False) W [cells g11 (cat ({ v with epoch := if e = 0 then v.epoch else v.epoch + e } : V).ss) 55, esl 104 (.slice aa (elsV all).length ac) (elsV all), cells g8 (i64s vv.l) 53, cells g7 (cat last.ss) 55] w) ?_ ?_
  · by_cases h3 : i < bl.length
    · obtain ⟨gb, ob, rfl⟩ := hb.some' (by omega)
      refine go_R H ?_; clear H; intro w H
      have hbi : (bl.map Value.bool)[i]? = some (.bool bl[i]) := by simp [h3]
      refine q_loadC ?_ (Rd.cellAt (hb.no H.fr) i _ hbi)
      obtain ⟨bv, hbv⟩ : ∃ b, bl[i] = b := ⟨_, rfl⟩
      rw [hbv]
      cases bv
      · refine go_R H ?_; clear H; intro w H
        exact ⟨0, ⟨rfl, rfl, rfl, rfl, rfl, rfl, rfl, rfl, trivial⟩, .inl rfl, H.sub (by repeat (first | exact Sub.nil | apply Sub.cons | exact Take.z | apply Take.s))⟩
      · refine go_R H ?_; clear H; intro w H
        exact ⟨1, ⟨rfl, rfl, rfl, rfl, rfl, rfl, rfl, rfl, trivial⟩, .inr rfl, H.sub (by repeat (first | exact Sub.nil | apply Sub.cons | exact Take.z | apply Take.s))⟩
    · refine go_R H ?_; clear H; intro w H
      exact ⟨0, ⟨rfl, rfl, rfl, rfl, rfl, rfl, rfl, rfl, trivial⟩, .inl rfl, H.sub (by repeat (first | exact Sub.nil | apply Sub.cons | exact Take.z | apply Take.s))⟩
  clear H
  rintro e ρ w ⟨he, H⟩
  refine go_R H ?_; clear H; intro w H
  refine q_conv ?_ hcb
  refine go_R H ?_; clear H; intro w H
  refine q_storeRB 4 0 (b := UInt8.ofNat i) H rfl ?_; clear H; intro w H
  obtain ⟨u, hu⟩ : ∃ x, vstep last who e (UInt8.ofNat i) = x := ⟨_, rfl⟩
  replace H : St (fun _ => False) W [cells g11 (cat u.ss) 55, esl 104 (.slice aa (elsV all).length ac) (elsV all), cells g8 (i64s vv.l) 53, cells g7 (cat last.ss) 55] w := by
    subst hu hv
    exact H.sub (by repeat (first | exact Sub.nil | apply Sub.cons | exact Take.z | apply Take.s))
  have hF := vstep_follows hvb who e (UInt8.ofNat i) hw he
  have hM := vstep_may hvb (by omega) (by omega) who e (UInt8.ofNat i) hw he
  have hub := hvb.step who e (UInt8.ofNat i) hw he
  have hN : ∀ k x, all[k]? = some x → k + 1 < all.length → ¬ vfollows x (vstep last who e (UInt8.ofNat i)) := fun k x hx hk => vstep_not hvb (hch k x hx) (by omega) who e (UInt8.ofNat i) hw
  have hun := vstep_n last who e (UInt8.ofNat i)
  have huv := vstep_vec last who e (UInt8.ofNat i)
  rw [hu] at hF hM hub hN hun huv
  rw [hvv] at huv
  clear hu
  have huc := hub.count
  have hus := hub.sm (by omega) (by omega)
  have hag : Value.agg (u.vec.l.map (Value.int .i64)).toArray = .agg (vv.l.map (Value.int .i64)).toArray := by rw [huv]
  have hva : ∀ z ∈ vv.l, In64 z := fun z hz => by
    rw [← huv] at hz
    simp only [List.mem_cons, List.not_mem_nil, or_false] at hz
    rcases hz with rfl | rfl | rfl | rfl
    · exact hus.ok.a
    · exact hus.ok.b
    · exact hus.ok.c
    · exact hus.ok.d
  have K1 : Kv Try.prog 53 (.agg (u.vec.l.map (Value.int .i64)).toArray) := by
    rw [hag]; exact Kv_i64s _ rfl hva
  have K2 : Kv Try.prog 53 (.agg (vv.l.map (Value.int .i64)).toArray) := Kv_i64s _ rfl hva
  refine go_R H ?_; clear H; intro w H
  replace H := H.drew
  refine r_start (Hold [(g7, .cells (cat last.ss).toArray 55 (0, 0)), (g11, .cells (cat u.ss).toArray 55 (0, 0)), (g8, .cells (i64s vv.l).toArray 53 (0, 0))]) 31 rfl holdS ?_
  refine r_takeR 0 ?_; refine r_takeR 1 ?_
  refine r_op 2 rfl ?_
  refine q_call (Follows_t hsm hus.ok hF _) ?_; rintro _ w1 ⟨rfl, hNo⟩; replace H := H.no hNo; clear hNo; refine ⟨_, rfl, ?_⟩
  refine q_nil ?_; refine r_nextS ?_
  refine r_takeR 3 ?_; refine r_takeR 4 ?_; refine r_takeR 5 ?_; refine r_takeR 7 ?_; refine r_takeR 6 ?_; refine r_takeR 8 ?_; refine r_takeR 9 ?_
  refine r_take 10 rfl rfl (fun w hS => x_ldC hS.2.2.1 rfl hvl) ?_
  refine r_takeR 11 ?_; refine r_takeR 12 ?_; refine r_takeR 13 ?_; refine r_takeR 14 ?_; refine r_takeR 16 ?_; refine r_takeR 15 ?_
  refine r_op 17 rfl ?_
  refine q_wne_f K1 K2 hag ?_
  refine q_nil ?_; refine r_nextS ?_
  refine r_takeR 18 ?_; refine r_takeR 19 ?_; refine r_takeR 20 ?_; refine r_takeR 22 ?_; refine r_takeR 21 ?_; refine r_takeR 23 ?_; refine r_takeR 24 ?_; refine r_takeR 25 ?_; refine r_takeR 26 ?_; refine r_takeR 27 ?_
  refine r_op 28 rfl ?_
  refine q_call (May_t hM _) ?_; rintro _ w1 ⟨rfl, hNo⟩; replace H := H.no hNo; clear hNo; refine ⟨_, rfl, ?_⟩
  refine q_nil ?_; refine r_nextS ?_
  refine r_takeR 29 ?_; refine r_takeR 30 ?_
  refine r_done ?_
  refine go_R H ?_; clear H; intro w H
  refine q_loop (fun k : Nat => [(0, .slice (some ⟨g0, o0, none⟩) zs.length c0), (1, .slice a1 bl.length c1), (6, .slice aa (elsV all).length ac), (7, .pointer (some ⟨g7, 0, none⟩)), (8, .pointer (some ⟨g8, 0, none⟩)), (9, .int .i64 i), (11, .pointer (some ⟨g11, 0, none⟩)), (12, .int .i64 k)])
    (fun k w => St (fun _ => False) W [cells g11 (cat u.ss) 55, esl 104 (.slice aa (elsV all).length ac) (elsV all), cells g8 (i64s vv.l) 53, cells g7 (cat last.ss) 55] w ∧ k ≤ 20) (fun k => 20 - k) 0 (by exact ⟨rfl, rfl, rfl, rfl, rfl, rfl, rfl, rfl, trivial⟩) ⟨H.sub (by repeat (first | exact Sub.nil | apply Sub.cons | exact Take.z | apply Take.s)), by omega⟩ ?_
  clear H
  rintro k ρ w ⟨H, hk⟩
  have hel : (elsV all).length = all.length := by unfold elsV; rw [List.length_map]
  by_cases h4 : k + 1 < all.length
  · have h4' : k + 1 < (elsV all).length := by omega
    obtain ⟨ga, oa, rfl⟩ := (H.slc (by (repeat (first | exact Take.z | apply Take.s)); done)).rd.some' (by omega)
    have hkx : all[k]? = some all[k] := List.getElem?_eq_getElem (by omega)
    have hke : (elsV all)[k]? = some (cat all[k].ss) := by unfold elsV; rw [List.getElem?_map, hkx]; rfl
    have hks := (hch k _ hkx).sm (by omega) (by omega)
    refine go_R H ?_; clear H; intro w H
    replace H := H.drew
    refine r_start (fun w => Hold [(g11, .cells (cat u.ss).toArray 55 (0, 0))] w ∧ Rd 104 w (.slice (some ⟨ga, oa, none⟩) (elsV all).length ac) (elsV all).length (elsV all).flatten) 6 rfl ⟨holdS, (H.slc (by (repeat (first | exact Take.z | apply Take.s)); done)).rd⟩ ?_
    refine r_takeR 0 ?_; refine r_takeR 1 ?_; refine r_takeR 4 ?_; refine r_takeR 2 ?_
    refine r_take 3 rfl rfl (fun w hS => x_ldE k hS.2 (elsV_len all) hke) ?_
    refine r_op 5 rfl ?_
    refine q_call (Follows_f hks hus.ok (hN k _ hkx h4) _) ?_; rintro _ w1 ⟨rfl, hNo⟩; replace H := H.no hNo; clear hNo; refine ⟨_, rfl, ?_⟩
    refine q_nil ?_
    refine r_next ⟨holdS, (H.slc (by (repeat (first | exact Take.z | apply Take.s)); done)).rd⟩ ?_
    refine r_done ?_
    refine go_R H ?_; clear H; intro w H
    exact ⟨k + 1, ⟨rfl, rfl, rfl, rfl, rfl, rfl, rfl, rfl, trivial⟩, ⟨H.sub (by repeat (first | exact Sub.nil | apply Sub.cons | exact Take.z | apply Take.s)), by omega⟩, by omega⟩
  · have h4' : ¬ k + 1 < (elsV all).length := by omega
    refine go_R H ?_; clear H; intro w H
    replace H := H.drew
    refine r_start (Hold [(g11, .cells (cat u.ss).toArray 55 (0, 0))]) 7 rfl holdS ?_
    refine r_takeR 0 ?_; refine r_takeR 1 ?_; refine r_takeR 4 ?_
    refine r_op 2 rfl ?_
    refine q_side (k := 104) [cat u.ss] H ⟨rfl, rfl, (cat_len (ss := u.ss) SegsOf.out).trans rfl, trivial⟩ ?_; clear H; intro g3 w H
    simp only [List.flatten_cons, List.flatten_nil, List.append_nil] at H
    refine q_nil ?_; refine r_nextS ?_
    refine r_op 3 rfl ?_
    refine q_appE (g := g3) (el := cat u.ss) (els := elsV all) H ?_ (by (repeat (first | exact Take.z | apply Take.s)); done) (by (repeat (first | exact Take.z | apply Take.s)); done) ((cat_len (ss := u.ss) SegsOf.out).trans rfl) (u.ones) ; clear H; intro va2 w H
    refine q_nil ?_; refine r_nextS ?_
    refine r_takeR 5 ?_
    refine r_op 6 rfl ?_
    refine q_storeRW (g := g7) (ss' := u.ss) H ?_; clear H; intro w H
    refine q_nil ?_; refine r_nextS ?_
    refine r_done ?_
    refine go_R H ?_; clear H; intro w H
    have hcs := hch.snoc (v := u) (by rw [hal]; exact hub)
    have he2 : elsV all ++ [cat u.ss] = elsV (all ++ [u]) := by unfold elsV; simp
    rw [he2] at H
    rw [← huv] at H
    exact ⟨(i + 1, u, all ++ [u], va2), ⟨rfl, rfl, rfl, rfl, rfl, rfl, trivial⟩, ⟨H.sub (by repeat (first | exact Sub.nil | apply Sub.cons | exact Take.z | apply Take.s)), by dsimp only; omega, by simp [hal], hcs, hub⟩, by dsimp only; omega⟩
end Go.Proofs.Ytamkekmaahnbcaa
