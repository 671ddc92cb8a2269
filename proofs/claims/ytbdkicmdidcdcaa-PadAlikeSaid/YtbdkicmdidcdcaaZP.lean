/-
  The document's SHA-256.
-/
import Derived.Test.YtbdkicmdidcdcaaZB
import Derived.Test.YtbdkicmdidcdcaaZC
namespace Go.Proofs.Ytbdkicmdidcdcaa
open Go.RowKit

theorem Try.infoW : (Try.prog.info? 100).map (fun i => (i.zero, i.size, i.bytes)) = some (some (.int .u32 0), 1, 4) := by kernel_rfl

theorem shp_mod (b : List UInt8) : ∃ K, (b ++ shp b).length = 64 * K := by
  refine ⟨(b ++ shp b).length / 64, ?_⟩
  have : (shp b).length = 1 + (shz b.length + 8) := by simp [shp, be64_len]; omega
  rw [List.length_append, this]
  unfold shz; omega
theorem sha_eq (b : List UInt8) (K : Nat) (h : (b ++ shp b).length = 64 * K) : sha b = words4 (mixK iv8 (b ++ shp b) K).l := by
  unfold sha shv; rw [h]; congr 3; omega

set_option maxRecDepth 100000 in
set_option maxHeartbeats 8000000 in
theorem rsha_any (base : Nat) (v : Value) (b : List UInt8) (hg : Nat) (w : World) (h : RB w v b) (hl : b.length ≤ 900000000) (hb : base ≤ w.heap.size)
    (hh : w.heap[hg]? = some (.cells (ws iv8.l).toArray 100 (0, 0))) :
    Calls Try.prog 75 #[v, .slice (some ⟨hg, 0, none⟩) 8 8] w fun e w' => ∃ v', e = .returned v' ∧ OB base w' v' (sha b) ∧ Fr (fun k => k = hg) w w' ∧ (∀ k, v'.ownBlock = some k → w.heap.size ≤ k) := by
  have HV := _root_.Go.Lib.hid h
  have HH := _root_.Go.Lib.hid hh
  have HB := _root_.Go.Lib.hid hb
  have HL := _root_.Go.Lib.hid hl
  have hgw : hg < w.heap.size := lt_of_heap hh
  obtain ⟨K, hK⟩ := shp_mod b
  have HS := _root_.Go.Lib.hid (sha_eq b K hK)
  have HK := _root_.Go.Lib.hid hK
  have hpl : (b ++ shp b).length ≤ 1000000000 := by
    have : (shp b).length ≤ 80 := by simp [shp, be64_len, shz]; omega
    rw [List.length_append]; omega
  have hK64 : 64 * K ≤ 1000000000 := by omega
  clear h hh hb hl hK hpl
  have hmk : ∀ w : World, (Instr.makeSlice 113 (.int .i64 64) (.int .i64 64)).run Try.prog w = .ok (.slice (some ⟨w.heap.size, 0, none⟩) 64 64) (w.alloc (.cells (List.replicate 64 (.int .u32 0)).toArray 100)) := fun _ => by kernel_rfl
  go_enter Try.func75, Try.ntmps75
  go_wp2_with (first
    | (go_at_call 88; refine (padded_any base v b _ (HV.out.no A1.out) (by have := HL.out; omega) (Nat.le_trans HB.out A1.out.size)).mono ?_; rintro e w2 ⟨v6, rfl, hO, hn, hW⟩; have B1 := _root_.Go.Lib.hid hO; have B2 := _root_.Go.Lib.hid (A1.out.trans hn (fun _ _ a => a)); have B3 : Hid (∀ k, v6.ownBlock = some k → w.heap.size ≤ k) := (fun k e => Nat.le_trans A1.out.size (hW k e)); have B4 : Hid (w2.heap[w.heap.size]? = some (.cells (ws kw).toArray 100 (0, 0))) := hn.heap A2.out id; clear hO hn hW)
    | (go_at_call 87; refine (k256_any _).mono ?_; rintro e w1 ⟨rfl, h1⟩; have A1 : Hid (No w w1) := (by show No _ _; rw [h1]; exact (Fr.refl _ _).alloc _); have A2 : Hid (w1.heap[w.heap.size]? = some (.cells (ws kw).toArray 100 (0, 0))) := (by show _ = _; rw [h1]; exact heap_alloc_new w _); clear h1))
  obtain ⟨m, hm⟩ : ∃ m, b ++ shp b = m := ⟨_, rfl⟩
  rw [hm] at B1 HK HS
  clear hm
  go_loopg [6] K (fun g x wr => ∃ j, g = K - j ∧ j ≤ K ∧ RB wr x (m.drop (64 * j)) ∧ wr.heap[hg]? = some (.cells (ws (mixK iv8 m j).l).toArray 100 (0, 0)) ∧ wr.heap[w.heap.size]? = some (.cells (ws kw).toArray 100 (0, 0)) ∧ x.ownBlock ≠ some hg ∧ Fr (fun k => k = hg) w wr)
  case atStart =>
    exact ⟨0, by omega, by omega, by simpa using B1.out.rb, B2.out.heap HH.out id, B4.out, fun e => by have := B3.out hg e; omega, B2.out.mono fun _ _ a => a.elim⟩
  case round =>
    obtain ⟨j, hgj, hj, hR, hV, hKw, hx, hF⟩ := hrel
    have Zg := _root_.Go.Lib.hid hgj
    have ZR := _root_.Go.Lib.hid hR
    have ZV := _root_.Go.Lib.hid hV
    have ZK := _root_.Go.Lib.hid hKw
    have Zx := _root_.Go.Lib.hid hx
    have ZF := _root_.Go.Lib.hid hF
    have hlen : (m.drop (64 * j)).length = 64 * K - 64 * j := by rw [List.length_drop, HK.out]
    have ZL := _root_.Go.Lib.hid hlen
    clear hgj hR hV hKw hx hF hlen
    by_cases hjK : j < K
    · obtain ⟨L, hL⟩ : ∃ L, 64 * K - 64 * j = L := ⟨_, rfl⟩
      have hL64 : 64 ≤ L := by omega
      have hLm : (L : Int) ≤ 1000000000 := by omega
      have hL0 : (0 : Int) < L := by omega
      have hL0n : 0 < L := by omega
      have ZLL : Hid ((m.drop (64 * j)).length = L) := by show _ = _; rw [ZL.out, hL]
      rcases ZR.out.shape with ⟨rfl, e⟩ | ⟨mg, mo, mc, rfl, h1, h2, h3, _⟩
      · have := ZLL.out; rw [e] at this; simp at this; omega
      rw [ZLL.out] at ZR h1 ⊢
      have hmc : (mc : Int) ≤ 9223372036854775807 := by unfold maxLen at h2; omega
      obtain ⟨wo, rfl⟩ : ∃ wo : World, wo = wr := ⟨_, rfl⟩
      obtain ⟨blk, hblk⟩ : ∃ blk, (m.drop (64 * j)).take 64 = blk := ⟨_, rfl⟩
      have HBK := _root_.Go.Lib.hid hblk
      have hbl : Hid (∀ c, c < 64 → (m.drop (64 * j)).getD c 0 = blk.getD c 0) := fun c hc => by rw [← hblk, take_getD _ _ _ hc]
      obtain ⟨V, hVV⟩ : ∃ V, mixK iv8 m j = V := ⟨_, rfl⟩
      rw [hVV] at ZV
      have HMX : Hid (mixB V blk = mixK iv8 m (j + 1)) := by show _ = _; rw [← hVV, ← hblk]; rfl
      clear hblk hVV hL
      go_wp2_with fail
      go_loopw [8] (fun y wr => ∃ i : Nat, i ≤ 64 ∧ y = .int .i64 i ∧ No wo wr ∧ wr.heap[wo.heap.size]? = some (.cells (wcells blk i).toArray 100 (0, 0))) (fun y _ => 64 - (intOf y).toNat)
      case atStart => exact ⟨0, by omega, rfl, (Fr.refl _ _).alloc _, by simpa [wcells, wl, ws] using heap_alloc_new wo (.cells (List.replicate 64 (.int .u32 0)).toArray 100)⟩
      case round =>
        obtain ⟨i, hi, rfl, hno, hA⟩ := hrel
        have YN := _root_.Go.Lib.hid hno
        have YA := _root_.Go.Lib.hid hA
        have hfr : wr.frozen? ⟨wo.heap.size, i, none⟩ = false := by simp [World.frozen?, hA]
        have hZc : Hid (i < 64 → wr.cell? ⟨wo.heap.size, i, none⟩ = some (.int .u32 0)) := fun h => by
          rw [cell_of_row _ _ _ _ _ _ hA, List.getElem?_toArray]; exact wcells_zero blk i h
        have hOld : Hid (∀ j, j < i → wr.cell? ⟨wo.heap.size, j, none⟩ = some (.int .u32 (wd ((wl blk i).getD j 0)))) := fun j h => by
          rw [cell_of_row _ _ _ _ _ _ hA, List.getElem?_toArray]; exact wcells_old blk i j h
        have HN : Hid (∀ x : UInt32, x = wnext blk (wl blk i) i → i < 64 → ∀ w', w'.heap = (wr.setCell ⟨wo.heap.size, i, none⟩ (.int .u32 (wd x))).heap → w'.os = wr.os → w'.tape = wr.tape → w'.output = wr.output →
            No wo w' ∧ w'.heap[wo.heap.size]? = some (.cells (wcells blk (i + 1)).toArray 100 (0,0))) := by
          intro x hx hi' w' hw h2 h3 h4
          have hn := hno.setCell ⟨wo.heap.size, i, none⟩ (.int .u32 (wd x)) (fun h => by simp at h)
          refine ⟨⟨h2.trans hno.os, h3.trans hno.tape, h4.trans hno.output, by rw [hw]; exact hn.size, fun k hk hs => by rw [hw]; exact hn.block k hk hs⟩, ?_⟩
          rw [hw, heap_setCell_row hA, List.setIfInBounds_toArray, hx, wcells_set blk i hi']
        clear hno hA
        by_cases hlt : i < 16
        · have hlt' : (i : Int) < 16 := by omega
          have h4L : (4 * (i : Int)) ≤ L := by omega
          have hcell := hZc.out (by omega)
          have HE : Hid (be32 (((m.drop (64 * j)).drop (4 * i)).getD 0 0) (((m.drop (64 * j)).drop (4 * i)).getD 1 0) (((m.drop (64 * j)).drop (4 * i)).getD 2 0) (((m.drop (64 * j)).drop (4 * i)).getD 3 0) = wnext blk (wl blk i) i) := by
            show _ = _; unfold wnext; rw [if_pos hlt, drop_getD (m.drop (64 * j)) (4 * i) 0, drop_getD (m.drop (64 * j)) (4 * i) 1, drop_getD (m.drop (64 * j)) (4 * i) 2, drop_getD (m.drop (64 * j)) (4 * i) 3, hbl.out _ (by omega), hbl.out _ (by omega), hbl.out _ (by omega), hbl.out _ (by omega)]; rfl
          have ZD := _root_.Go.Lib.hid ((ZR.out.no YN.out).drop (4 * i) (by rw [ZLL.out]; omega))
          have ZD4 : Hid (4 ≤ ((m.drop (64 * j)).drop (4 * i)).length) := by show _ ≤ _; rw [List.length_drop, ZLL.out]; omega
          have hne : ¬ (4 * i = mc) := by omega
          have hne' : ¬ (mc = 4 * i) := by omega
          go_wp2_with (go_at_call 89; refine (word_any _ _ _ ZD.out ZD4.out).mono ?_; rintro e w' ⟨rfl, kk, rfl⟩; rw [HE.out])
          go_roundw
          case rel =>
            obtain ⟨f1, f2⟩ := HN.out _ rfl (by omega) _ rfl rfl rfl rfl
            exact ⟨i + 1, by omega, by go_num, f1.trans ((Fr.refl _ _).drewN kk) (fun _ _ a => a), f2⟩
          case measure => simp [intOf]; omega
        · by_cases hlt2 : i < 64
          · have c16 := hOld.out (i - 16) (by omega)
            have c15 := hOld.out (i - 15) (by omega)
            have c7 := hOld.out (i - 7) (by omega)
            have c2 := hOld.out (i - 2) (by omega)
            have c4 := hZc.out (by omega)
            have HE : Hid ((wl blk i).getD (i - 16) 0 + s0w ((wl blk i).getD (i - 15) 0) + (wl blk i).getD (i - 7) 0 + s1w ((wl blk i).getD (i - 2) 0) = wnext blk (wl blk i) i) := by
              show _ = _; unfold wnext; rw [if_neg hlt]
            generalize (wl blk i).getD (i - 16) 0 = x16 at *
            generalize (wl blk i).getD (i - 15) 0 = x15 at *
            generalize (wl blk i).getD (i - 7) 0 = x7 at *
            generalize (wl blk i).getD (i - 2) 0 = x2 at *
            clear hmk
            go_wp2_with fail
            have k16' : (16 : Int) ≤ (i : Int) := by omega
            have k7' : (7 : Int) ≤ (i : Int) := by omega
            have e15 : IntKind.i64.wrap ((i : Int) - 15) = i - 15 := IntWalk.i64_in _ (by omega)
            have e2 : IntKind.i64.wrap ((i : Int) - 2) = i - 2 := IntWalk.i64_in _ (by omega)
            have e16 : IntKind.i64.wrap ((i : Int) - 16) = i - 16 := IntWalk.i64_in _ (by omega)
            have e7 : IntKind.i64.wrap ((i : Int) - 7) = i - 7 := IntWalk.i64_in _ (by omega)
            have k16 : (0 : Int) ≤ (i : Int) - 16 := by omega
            have k7 : (0 : Int) ≤ (i : Int) - 7 := by omega
            have g16 : (i : Int) - 16 < 64 := by omega
            have g7 : (i : Int) - 7 < 64 := by omega
            have t16 : ((i : Int) - 16).toNat = i - 16 := by omega
            have t7 : ((i : Int) - 7).toNat = i - 7 := by omega
            refine wp_region_tail 32 (by kernel_rfl) (by kernel_rfl) ?_
            simp only [List.take_succ_cons, List.take_zero, List.drop_succ_cons, List.drop_zero]
            repeat (first | still_step | still_call (right_k _ _ _ (by omega) (by omega)))
            refine wpStill_nil ?_
            clear e15 e2 e16 e7 k16 k7 k16' k7' g16 g7 t16 t7
            go_wp2
            go_roundw
            case rel =>
              obtain ⟨f1, f2⟩ := HN.out _ HE.out (by omega) _ rfl rfl rfl rfl
              exact ⟨i + 1, by omega, by go_num, f1.drew, f2⟩
            case measure => simp [intOf]; omega
          · obtain rfl : i = 64 := by omega
            have YW : Hid (wr.heap[wo.heap.size]? = some (.cells (ws (wl blk 64)).toArray 100 (0, 0))) := by
              have := YA.out; rwa [show wcells blk 64 = ws (wl blk 64) from by simp [wcells]] at this
            have YV : Hid (wr.heap[hg]? = some (.cells (ws V.l).toArray 100 (0, 0))) := YN.out.heap ZV.out id
            have YK : Hid (wr.heap[w.heap.size]? = some (.cells (ws kw).toArray 100 (0, 0))) := YN.out.heap ZK.out id
            have YS := _root_.Go.Lib.hid (RW.of_heap 8 YV.out rfl (by omega))
            have hgr : Hid (hg < wr.heap.size) := lt_of_heap YV.out
            obtain ⟨iW, hiW, hzW, hsW, hbW⟩ := info_parts Try.infoW
            clear hmk YA hZc hOld HN hfr
            go_wp2_with (at_builtin; refine wpList_append_ow rfl (.const (.slice none 0 0)) (.tmp 83) 113 113 rfl 100 iW (.int .u32 0) 4 Try.underlying113 hiW hzW hsW hbW rfl (Ow.nil 0 1 _) rfl _ rfl 8 (ws V.l) (Rd.src Try.underlying113 YS.out) (by unfold maxLen; omega) (by omega) (Nat.zero_le _) ?_; intro v11 w4 hv11 hg4 hoo _; have X0 : Hid (∀ k, v11.ownBlock = some k → wr.heap.size ≤ k) := (fun k hk => by rcases hoo with e | ⟨j, e, hj⟩; rw [e] at hk; simp [Value.ownBlock] at hk; rw [e] at hk; injection hk with hk; omega); have X1 : Hid (Rd 1 w4 v11 8 (ws V.l)) := hv11.rd; have X2 : Hid (No wr w4) := (Fr.of_grown hg4).mono (fun _ _ e => by simp [Value.ownBlock] at e); clear hv11 hg4 hoo)
            clear hiW hzW hsW hbW
            have X3 : Hid (w4.heap[wo.heap.size]? = some (.cells (ws (wl blk 64)).toArray 100 (0, 0))) := X2.out.heap YW.out id
            have X4 : Hid (w4.heap[w.heap.size]? = some (.cells (ws kw).toArray 100 (0, 0))) := X2.out.heap YK.out id
            have X5 : Hid (w4.heap[hg]? = some (.cells (ws V.l).toArray 100 (0, 0))) := X2.out.heap YV.out id
            have X6 : Hid (No wo w4) := YN.out.trans X2.out (fun _ _ a => a)
            clear YW YV YK YS X2 YN
            rcases X1.out.shape with ⟨_, h0, _⟩ | ⟨ga, oa, ca, hva, hca1, hca2, _⟩
            · omega
            subst hva
            have hga : Hid (ga ≠ hg) := fun e => by have := X0.out ga rfl; have := hgr.out; omega
            clear X0
            unfold maxLen at hca2
            go_loopw [11, 12] (fun y x wr => ∃ (i gv ov cv : Nat), i ≤ 64 ∧ gv ≠ hg ∧ x = .int .i64 i ∧ y = .slice (some ⟨gv, ov, none⟩) 8 cv ∧ Rd 1 wr (.slice (some ⟨gv, ov, none⟩) 8 cv) 8 (ws (rnds V (wl blk 64) i).l) ∧ No w4 wr) (fun _ x _ => 64 - (intOf x).toNat)
            case atStart => exact ⟨0, ga, oa, ca, by omega, hga.out, rfl, rfl, X1.out, Fr.refl _ _⟩
            case round =>
              obtain ⟨i, gv, ov, cv, hi, hgv, rfl, rfl, hr8, hn4⟩ := hrel
              have T1 := _root_.Go.Lib.hid hr8
              have T2 := _root_.Go.Lib.hid hn4
              have TC : Hid (∀ (c : Nat) (x : UInt32), c < 8 → (rnds V (wl blk 64) i).l.getD c 0 = x → wr.cell? ⟨gv, ov + c, none⟩ = some (.int .u32 (wd x))) := fun c x hc e => by
                rw [← e]; exact Rd.cellAt hr8 c _ (ws_getD (by rw [V8.l_length]; exact hc))
              clear hr8 hn4
              by_cases hlt3 : i < 64
              · have HE : Hid (rnd (rnds V (wl blk 64) i) (kw.getD i 0) ((wl blk 64).getD i 0) = rnds V (wl blk 64) (i + 1)) := rfl
                have cW : wr.cell? ⟨wo.heap.size, i, none⟩ = some (.int .u32 (wd ((wl blk 64).getD i 0))) := by
                  rw [cell_of_row _ _ _ _ _ _ (T2.out.heap X3.out id), List.getElem?_toArray]; exact ws_getD (by rw [wl_length]; exact hlt3)
                have cK : wr.cell? ⟨w.heap.size, i, none⟩ = some (.int .u32 (wd (kw.getD i 0))) := by
                  rw [cell_of_row _ _ _ _ _ _ (T2.out.heap X4.out id), List.getElem?_toArray]; exact ws_getD (by rw [kw_length]; exact hlt3)
                generalize rnds V (wl blk 64) i = r at *
                generalize (wl blk 64).getD i 0 = wi at *
                generalize kw.getD i 0 = ki at *
                have c0 : wr.cell? ⟨gv, ov, none⟩ = some (.int .u32 (wd r.a)) := TC.out 0 _ (by omega) rfl
                have c1 : wr.cell? ⟨gv, ov + 1, none⟩ = some (.int .u32 (wd r.b)) := TC.out 1 _ (by omega) rfl
                have c2 : wr.cell? ⟨gv, ov + 2, none⟩ = some (.int .u32 (wd r.c)) := TC.out 2 _ (by omega) rfl
                have c3 : wr.cell? ⟨gv, ov + 3, none⟩ = some (.int .u32 (wd r.d)) := TC.out 3 _ (by omega) rfl
                have c4 : wr.cell? ⟨gv, ov + 4, none⟩ = some (.int .u32 (wd r.e)) := TC.out 4 _ (by omega) rfl
                have c5 : wr.cell? ⟨gv, ov + 5, none⟩ = some (.int .u32 (wd r.f)) := TC.out 5 _ (by omega) rfl
                have c6 : wr.cell? ⟨gv, ov + 6, none⟩ = some (.int .u32 (wd r.g)) := TC.out 6 _ (by omega) rfl
                have c7 : wr.cell? ⟨gv, ov + 7, none⟩ = some (.int .u32 (wd r.h)) := TC.out 7 _ (by omega) rfl
                have hlt3' : (i : Int) < 64 := by omega
                clear TC
                go_wp2_with fail
                refine wp_region_still_drew (by kernel_rfl) (by kernel_rfl) ?_
                repeat (first | still_step | still_call (right_k _ _ _ (by omega) (by omega)))
                refine wpStill_nil ?_
                go_wp2_with fail
                refine wp_region_still_drew (by kernel_rfl) (by kernel_rfl) ?_
                repeat (first | still_step | still_call (right_k _ _ _ (by omega) (by omega)))
                refine wpStill_nil ?_
                go_wp2_with fail
                refine wp_region_tail 26 (by kernel_rfl) (by kernel_rfl) ?_
                simp only [List.take_succ_cons, List.take_zero, List.drop_succ_cons, List.drop_zero]
                repeat still_step
                refine wpStill_nil ?_
                go_wp2
                go_roundw
                case rel =>
                  refine ⟨i + 1, wr.heap.size, 0, 8, by omega, (by have := lt_of_heap (T2.out.heap X5.out id); omega), by go_num, rfl, ?_, ?_⟩
                  · rw [← HE.out]; exact Rd.no (RW.made wr 100 (rnd r ki wi).l 8 rfl (by omega)) (Fr.refl _ _).drew.drew.drew
                  · exact T2.out.trans (((Fr.refl _ _).alloc _).drew.drew.drew) (fun _ _ a => a)
                case measure => simp [intOf]; omega
              · obtain rfl : i = 64 := by omega
                have HM : Hid ((V.add (rnds V (wl blk 64) 64)).l = (mixK iv8 m (j + 1)).l) := by show _ = _; rw [← HMX.out]; rfl
                have U1 : Hid (wr.heap[hg]? = some (.cells (ws V.l).toArray 100 (0, 0))) := T2.out.heap X5.out id
                have U2 : Hid (Fr (fun k => k = hg) w wr) := (ZF.out.trans X6.out (fun _ _ a => a.elim)).trans T2.out (fun _ _ a => a.elim)
                have U3 : Hid (wr.heap[w.heap.size]? = some (.cells (ws kw).toArray 100 (0, 0))) := T2.out.heap X4.out id
                have U4 : Hid (RB wr (.slice (some ⟨mg, mo, none⟩) L mc) (m.drop (64 * j))) := (ZR.out.no X6.out).no T2.out
                have U5 : Hid (mg ≠ hg) := fun e => Zx.out (by rw [e]; rfl)
                have U6 := T1
                have hg8 : hg < wr.heap.size := lt_of_heap U1.out
                clear TC X1 X3 X4 X5 X6 T2 ZK ZF ZR ZV hbl HBK
                generalize rnds V (wl blk 64) 64 = r at *
                rw [show ((64 : Nat) : Int) = 64 from rfl]
                obtain ⟨w6, rfl⟩ : ∃ w6 : World, w6 = wr := ⟨_, rfl⟩
                go_wp2_with fail
                go_loopw [17] (fun x wr => ∃ i : Nat, i ≤ 8 ∧ x = .int .i64 i ∧ Fr (fun k => k = hg) w6 wr ∧ wr.heap[hg]? = some (.cells (ws (V.mixed r i)).toArray 100 (0, 0))) (fun x _ => 8 - (intOf x).toNat)
                case atStart => exact ⟨0, by omega, rfl, Fr.refl _ _, U1.out⟩
                case round =>
                  obtain ⟨i, hi, rfl, hno, hP⟩ := hrel
                  have QN := _root_.Go.Lib.hid hno
                  have QP := _root_.Go.Lib.hid hP
                  clear hno hP
                  by_cases hlt4 : i < 8
                  · have cp : wr.cell? ⟨hg, i, none⟩ = some (.int .u32 (wd (V.l.getD i 0))) := by
                      rw [cell_of_row _ _ _ _ _ _ QP.out, List.getElem?_toArray, ws_getD (by rw [V8.mixed_length _ _ _ (by omega)]; exact hlt4), V8.mixed_at _ _ _ hlt4]
                    have cv : wr.cell? ⟨gv, ov + i, none⟩ = some (.int .u32 (wd (r.l.getD i 0))) :=
                      Rd.cellAt (U6.out.fr QN.out (fun k hk => by simp [Value.ownBlock] at hk; omega)) i _ (ws_getD (by rw [V8.l_length]; exact hlt4))
                    have fz : wr.frozen? ⟨hg, i, none⟩ = false := by have := QP.out; simp [World.frozen?, this]
                    have HS2 : Hid ((ws (V.mixed r i)).set i (.int .u32 (wd (V.l.getD i 0 + r.l.getD i 0))) = ws (V.mixed r (i + 1))) := by show _ = _; rw [ws_set, V8.mixed_set _ _ _ hlt4]
                    generalize V.l.getD i 0 = vi at *
                    generalize r.l.getD i 0 = ri at *
                    have hlt4' : (i : Int) < 8 := by omega
                    go_wp2_with fail
                    refine wp_region_tail 10 (by kernel_rfl) (by kernel_rfl) ?_
                    simp only [List.take_succ_cons, List.take_zero, List.drop_succ_cons, List.drop_zero]
                    repeat still_step
                    refine wpStill_nil ?_
                    go_wp2
                    go_roundw
                    case rel =>
                      refine ⟨i + 1, by omega, by go_num, (QN.out.setCell ⟨hg, i, none⟩ _ (fun _ => rfl)).drew, ?_⟩
                      rw [← HS2.out]
                      have := heap_setCell_row QP.out i (.int .u32 (wd (vi + ri)))
                      rwa [List.setIfInBounds_toArray] at this
                    case measure => simp [intOf]; omega
                  · obtain rfl : i = 8 := by omega
                    have QF : Hid (Fr (fun k => k = hg) w wr) := U2.out.trans QN.out (fun _ _ a => a)
                    have QD : Hid (RB wr (.slice (some ⟨mg, mo, none⟩) L mc) (m.drop (64 * j))) := Rd.fr U4.out QN.out (fun k hk => by simp [Value.ownBlock] at hk; have := U5.out; omega)
                    have QK : Hid (wr.heap[w.heap.size]? = some (.cells (ws kw).toArray 100 (0, 0))) := QN.out.heap U3.out (by omega)
                    have QV : Hid (wr.heap[hg]? = some (.cells (ws (mixK iv8 m (j + 1)).l).toArray 100 (0, 0))) := by
                      show _ = _; rw [← HM.out]; exact QP.out
                    have QX : Hid ((m.drop (64 * j)).drop 64 = m.drop (64 * (j + 1))) := by show _ = _; rw [List.drop_drop]; congr 1
                    have hx1 := U5.out
                    clear QP U1 U2 U3 U4 U6 QN
                    by_cases hcn : mc = 64
                    · subst hcn
                      obtain rfl : L = 64 := by omega
                      go_wp2_with fail
                      go_roundg (K - (j + 1))
                      case measure => have := Zg.out; omega
                      case rel =>
                        refine ⟨j + 1, rfl, by omega, ?_, QV.out, QK.out, by simp [Value.ownBlock]; exact hx1, QF.out⟩
                        rw [← QX.out, List.drop_eq_nil_of_le (Nat.le_of_eq ZLL.out)]
                        exact QD.out.dropAll
                    · have hcn' : ¬ (64 = mc) := fun h => hcn h.symm
                      go_wp2_with fail
                      go_roundg (K - (j + 1))
                      case measure => have := Zg.out; omega
                      case rel =>
                        refine ⟨j + 1, rfl, by omega, ?_, QV.out, QK.out, by simp [Value.ownBlock]; exact hx1, QF.out⟩
                        rw [← QX.out]
                        exact QD.out.drop 64 (by rw [ZLL.out]; omega)
    · obtain rfl : j = K := by omega
      have hL0 : (m.drop (64 * j)).length = 0 := by rw [ZL.out]; omega
      have XL : Hid (Rd 1 wr u6 0 (bs (m.drop (64 * j)))) := by show Rd _ _ _ _ _; have := ZR.out; unfold RB at this; rwa [hL0] at this
      have XW := _root_.Go.Lib.hid (RW.of_heap 8 ZV.out rfl (by omega))
      clear hL0 hmk
      go_wp2_with (first
        | (refine wpList_len rfl (.tmp 21) 22 5 rfl Try.underlying22 u6 1 _ _ XL.out rfl ?_)
        | (go_at_call 91; (refine (words_any base hg 0 8 (mixK iv8 m j).l _ XW.out (show (8 : Nat) ≤ 1000 by omega) (Nat.le_trans HB.out ZF.out.size)).mono ?_); rintro e w9 ⟨v9, rfl, hO, hn, hW⟩; have E1 := _root_.Go.Lib.hid hO; have E2 := _root_.Go.Lib.hid hn; have E3 := _root_.Go.Lib.hid hW; clear hO hn hW))
      go_ret
      refine ⟨v9, rfl, by rw [HS.out]; exact E1.out, ZF.out.trans E2.out (fun _ _ a => a.elim), fun k hk => Nat.le_trans ZF.out.size (E3.out k hk)⟩
end Go.Proofs.Ytbdkicmdidcdcaa
