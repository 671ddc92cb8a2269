/-
  mac.turned, mac.Same. mac.HMAC. mac.Expand, mac.Same. The beginning of layer 3: known sums.
-/
import Derived.Test.YtbdkicmdidcdcaaZC
import Derived.Deep.RegionLaw
import Derived.Lib.SlBytesConst
namespace Go.Proofs.Ytbdkicmdidcdcaa
open Go.RowKit

/-- A key of 64 bytes at most; filled up with noughts, turned by a byte. -/
def kof (k : List UInt8) : List UInt8 := if 64 < k.length then sha k else k
def kblk (k : List UInt8) : List UInt8 := over (List.replicate 64 0) 0 64 (kof k)
def turn (k : List UInt8) (y : UInt8) : List UInt8 := (kblk k).map (· ^^^ y)
theorem kblk_length (k : List UInt8) : (kblk k).length = 64 := by unfold kblk; rw [over_length _ _ _ _ (by simp)]; simp
theorem turn_length (k : List UInt8) (y : UInt8) : (turn k y).length = 64 := by unfold turn; rw [List.length_map, kblk_length]
def xorTo (b : List UInt8) (y : UInt8) (i : Nat) : List UInt8 := (b.take i).map (· ^^^ y) ++ b.drop i
theorem xorTo_zero (b : List UInt8) (y : UInt8) : xorTo b y 0 = b := by simp [xorTo]
theorem xorTo_all (b : List UInt8) (y : UInt8) (n : Nat) (h : b.length = n) : xorTo b y n = b.map (· ^^^ y) := by subst h; simp [xorTo]
theorem xorTo_at (b : List UInt8) (y : UInt8) (i : Nat) (h : i < b.length) : (bs (xorTo b y i))[i]? = some (.int .u8 (by8 (b.getD i 0))) := by
  rw [bs_get]
  have : (xorTo b y i)[i]? = some (b.getD i 0) := by
    unfold xorTo
    rw [List.getElem?_append_right (by simp; omega)]
    simp [List.getElem?_drop, List.getD_eq_getElem?_getD, Nat.min_eq_left (Nat.le_of_lt h), h]
  rw [this]; rfl
theorem xorTo_set (b : List UInt8) (y : UInt8) (i : Nat) (h : i < b.length) : (bs (xorTo b y i)).set i (.int .u8 (by8 (b.getD i 0 ^^^ y))) = bs (xorTo b y (i + 1)) := by
  have h1 : (bs (xorTo b y i)).set i (.int .u8 (by8 (b.getD i 0 ^^^ y))) = bs ((xorTo b y i).set i (b.getD i 0 ^^^ y)) := by simp [bs, List.map_set]
  rw [h1]
  congr 1
  unfold xorTo
  rw [List.set_append_right _ _ (by simp; omega), List.take_succ_eq_append_getElem h, List.drop_eq_getElem_cons h, List.map_append, List.append_assoc]
  simp only [List.length_map, List.length_take, Nat.min_eq_left (Nat.le_of_lt h), Nat.sub_self, List.set_cons_zero]
  rw [List.getD_eq_getElem?_getD, List.getElem?_eq_getElem h]; rfl

set_option maxRecDepth 100000 in
set_option maxHeartbeats 1000000 in
theorem turned_any (v : Value) (k : List UInt8) (Y : Int) (y : UInt8) (hY : Y = by8 y) (w : World) (h : RB w v k) (hl : k.length ≤ 1000000) :
    Calls Try.prog 64 #[v, .int .u8 Y] w fun e w' => ∃ g, e = .returned (.slice (some ⟨g, 0, none⟩) 64 64) ∧ w'.heap[g]? = some (.cells (bs (turn k y)).toArray 5 (0, 0)) ∧ No w w' ∧ w.heap.size ≤ g := by
  subst hY
  have HV := _root_.Go.Lib.hid h
  have hmk : ∀ w : World, (Instr.makeSlice 22 (.int .i64 64) (.int .i64 64)).run Try.prog w = .ok (.slice (some ⟨w.heap.size, 0, none⟩) 64 64) (w.alloc (.cells (bs (List.replicate 64 0)).toArray 5)) := fun _ => by kernel_rfl
  have hkl := kblk_length k
  have HK : Hid (kblk k = over (List.replicate 64 0) 0 64 (kof k)) := rfl
  have HT : Hid (turn k y = (kblk k).map (· ^^^ y)) := rfl
  have HLL := _root_.Go.Lib.hid hl
  obtain ⟨L, hL⟩ : ∃ L, k.length = L := ⟨_, rfl⟩
  have HL : Hid (Rd 1 w v L (bs k)) := by show Rd _ _ _ _ _; have := h; unfold RB at this; rwa [hL] at this
  have HLk := _root_.Go.Lib.hid hL
  rw [hL] at hl
  have hl' : (L : Int) ≤ 1000000 := by omega
  have HS : Hid ((bs (sha k)).toArray.size = 32) := by show _ = _; simp [bs_length, sha_length]
  clear h hL
  obtain ⟨kb, hkb⟩ : ∃ kb, kblk k = kb := ⟨_, rfl⟩
  rw [hkb] at hkl HK HT
  have HKL := _root_.Go.Lib.hid hkl
  clear hkb hkl
  by_cases h64 : (64 : Int) < L
  all_goals first
    | (have hko : Hid (kof k = sha k) := (by show _ = _; unfold kof; rw [if_pos (by have := HLk.out; omega)]); obtain ⟨g0, o0, c0, hv0⟩ : ∃ g0 o0 c0, v = .slice (some ⟨g0, o0, none⟩) L c0 := (by rcases HL.out.shape with ⟨_, h0, _⟩ | ⟨g0, o0, c0, hv, _⟩; omega; exact ⟨_, _, _, hv⟩); subst hv0)
    | (have KR : Hid (RB w v (kof k)) := (by show RB _ _ _; unfold kof; rw [if_neg (by have := HLk.out; omega)]; exact HV.out); have NN : Hid (No w w) := Fr.refl _ _)
  all_goals
    go_enter Try.func64, Try.ntmps64
    go_wp2_with (first
      | (refine wpList_copy_bytes rfl (.tmp 16) (.tmp 17) 22 22 rfl 5 Try.underlying22 (by kernel_rfl) _ 0 64 64 rfl _ rfl (List.replicate 64 0) _ (heap_alloc_new _ _) (by simp) (kof k) (KR.out.alloc _) ?_; rw [← HK.out]; intro w5 a1 a2 a3 a4; have C2 : Hid (No w w5) := (NN.out.alloc _).trans a4 (fun j hj e => by have := NN.out.size; omega); obtain ⟨C3, hC3, a1'⟩ : ∃ C3, C3 = _ ∧ w5.heap[C3]? = _ := ⟨_, rfl, a1⟩; have C1 := _root_.Go.Lib.hid a1'; have C4 : Hid (w.heap.size ≤ C3) := (by show _ ≤ _; rw [hC3]; exact NN.out.size); simp only [← hC3]; clear a1 a1' a2 a3 a4 hC3)
      | (refine wpList_len rfl (.tmp 8) 22 5 rfl Try.underlying22 v 1 _ _ HL.out rfl ?_)
      | (go_at_call 57; refine (shaSum_is _ [k] k _ (RBs.one w 22 _ k HV.out) (by simp) (by have := HLL.out; omega)).mono ?_; rintro e w1 ⟨rfl, hn⟩; have A1 := _root_.Go.Lib.hid (((Fr.refl _ w).alloc _).trans hn (fun _ _ a => a)); clear hn)
      | (refine wpList_store_row' rfl 26 (.tmp 5) (.tmp 13) rfl _ _ rfl rfl _ _ (heap_alloc_new _ _) (by rw [HS.out]; kernel_rfl) (by rw [HS.out]; kernel_rfl) (by simpa using bs_one) ?_; intro NB a1 a2 a3 a4; have NN : Hid (No w NB) := (A1.out.alloc _).trans a4 (fun j hj e => by have := A1.out.size; omega); have KR : Hid (RB NB (.slice (some ⟨w1.heap.size, 0, none⟩) 32 32) (kof k)) := (by rw [hko.out]; exact RB.of_heap 32 a1 (sha_length k) (by omega)); clear a1 a2 a3 a4)
      | fail)
    go_loopw [21] (fun x wr => ∃ i : Nat, i ≤ 64 ∧ x = .int .i64 i ∧ wr.heap[C3]? = some (.cells (bs (xorTo kb y i)).toArray 5 (0, 0)) ∧ No w wr) (fun x _ => 64 - (intOf x).toNat)
    case atStart => exact ⟨0, by omega, rfl, by rw [xorTo_zero]; exact C1.out, C2.out⟩
    case round =>
      obtain ⟨i, hi, rfl, hc, hn⟩ := hrel
      have D1 := _root_.Go.Lib.hid hc
      have D2 := _root_.Go.Lib.hid hn
      by_cases hlt : (i : Int) < 64
      · have hin : i < kb.length := by have := HKL.out; omega
        have d1 : wr.cell? ⟨C3, i, none⟩ = some (.int .u8 (by8 (kb.getD i 0))) := by rw [cell_of_row _ _ _ _ _ _ hc, List.getElem?_toArray]; exact xorTo_at kb y i hin
        have d2 : wr.frozen? ⟨C3, i, none⟩ = false := by simp [World.frozen?, hc]
        have D3 := _root_.Go.Lib.hid (xorTo_set kb y i hin)
        generalize kb.getD i 0 = x at *
        have hi0 : (0 : Int) ≤ i := by omega
        clear hc hn hin
        go_wp2
        go_roundw
        case rel =>
          refine ⟨i + 1, by omega, by go_num, ?_, D2.out.setCell _ _ (fun e => by have := C4.out; simp at e; omega)⟩
          rw [← D3.out]
          have := heap_setCell_row D1.out i (.int .u8 (by8 (x ^^^ y)))
          rwa [List.setIfInBounds_toArray] at this
        case measure => simp [intOf]; omega
      · obtain rfl : i = 64 := by omega
        go_wp2
        go_ret
        exact ⟨C3, rfl, by rw [HT.out, ← xorTo_all kb y 64 HKL.out]; exact D1.out, D2.out, C4.out⟩
end Go.Proofs.Ytbdkicmdidcdcaa
namespace Go.Proofs.Ytbdkicmdidcdcaa
open Go.RowKit
attribute [local go_sem ↓] Go.wp_at_zero Go.wp_at_succ

theorem Try.infoS : (Try.prog.info? 22).map (fun i => (i.zero, i.size, i.bytes)) = some (some (.slice none 0 0), 1, 24) := by kernel_rfl
def hmac (k m : List UInt8) : List UInt8 := sha (turn k 92 ++ sha (turn k 54 ++ m))
theorem hmac_length (k m : List UInt8) : (hmac k m).length = 32 := sha_length _

theorem Ow.one (base : Nat) (w : World) (x : Value) (e : TypeId) (hx : x.oneCell' = true) : Ow base 1 (w.alloc (.cells #[x] e)) (.slice (some ⟨w.heap.size, 0, none⟩) 1 1) 1 [x] :=
  ⟨rfl, fun u hu => by simp at hu; subst hu; exact hx, .inr ⟨w.heap.size, 0, 1, #[x], e, (0, 0), rfl, heap_alloc_new w _, rfl, Nat.le_refl _, by unfold maxLen; omega, .inl rfl⟩⟩

section
variable {P : Program} {ops : Array Oper} {o : Oper} {a : Act} {w : World} {Q : Exit → Act → World → Prop} {K : Act → World → Prop} {E : Prop}
/-- A whole array stored into a block, in a region that draws its order. -/
theorem step_store_row (hgd : o.guard = none) (ty : TypeId) (x y : Operand) (ho : o.op = .store ty x y)
    (g : Nat) (cells : Array Value) (hx : a.eval x = .pointer (some ⟨g, 0, none⟩)) (hy : a.eval y = .agg cells)
    (t : TypeId) (old : Array Value) (hg : w.heap[g]? = some (.cells old t (0, 0))) (hi : (P.info? ty).map (·.size) = some cells.size)
    (hold : old.size = cells.size) (h1 : ∀ u ∈ cells.toList, u.oneCell' = true)
    (hk : ∀ w', w'.heap[g]? = some (.cells cells t (0, 0)) → (∀ k, k ≠ g → w'.heap[k]? = w.heap[k]?) → w'.heap.size = w.heap.size → Fr (fun k => k = g) w w' → K (a.put o.dst undef) w') :
    if Region.wanted o (yielded ops a.tmps) = true then Oper.wp P o a w K Q else E := by
  have hw : Region.wanted o (yielded ops a.tmps) = true := by simp [Region.wanted, hgd]
  rw [if_pos hw]
  have hr := run_storeVar_sub (P := P) w g 0 t ty old cells hg hi (by omega) h1
  unfold Oper.wp execOp
  simp only [ho, hx, hy, Instr.storeAt, Instr.sureAddr, Sem.run_bind, Sem.run_pure, Result.andThen_ok, hr]
  refine hk _ ?_ (fun k hk => setRow_other _ _ _ _ hk) (by simp) ((Fr.refl _ _).setRow g _ (fun _ => rfl))
  rw [setRow_heap _ _ _ _ _ _ hg]
  congr 2
  have : List.drop old.size old.toList = [] := List.drop_of_length_le (by simp)
  simp [← hold, this]
end
/-- One slice ahead of others. -/
theorem RBs.cons {w w0 w2 : World} {x v2 pv : Value} {l : List UInt8} {ls : List (List UInt8)} {vs : List Value} {base : Nat} (h2 : Ow base 1 w2 v2 (1 + ls.length) ([x] ++ vs)) (hx : RB w2 x l)
    (_h1 : Rd 1 w pv ls.length vs) (hl : vs.length = ls.length) (h3 : ∀ (j : Nat) (x : Value) (l : List UInt8), vs[j]? = some x → ls[j]? = some l → RB w0 x l) (hf : No w0 w2) : RBs w2 v2 (l :: ls) := by
  refine ⟨x :: vs, ?_, by simp [hl], fun j y m a b => ?_⟩
  · have := h2.rd
    rw [Nat.add_comm] at this
    exact this
  · match j with
    | 0 => simp at a b; subst a b; exact hx
    | j + 1 => simp at a b; exact (h3 j y m a b).no hf

set_option maxRecDepth 100000 in
set_option maxHeartbeats 2000000 in
theorem HMAC_any (v : Value) (k : List UInt8) (pv : Value) (ls : List (List UInt8)) (w : World) (h : RB w v k) (hp : RBs w pv ls) (hk : k.length ≤ 1000000) (hl : ls.flatten.length ≤ 800000000) (hn : ls.length ≤ 1000) :
    Calls Try.prog 50 #[v, pv] w fun e w' => e = .returned (.agg (bs (hmac k ls.flatten)).toArray) ∧ No w w' := by
  have HV := _root_.Go.Lib.hid h
  have HP := _root_.Go.Lib.hid hp
  have HK := _root_.Go.Lib.hid hk
  have HL := _root_.Go.Lib.hid hl
  have HN := _root_.Go.Lib.hid hn
  have HI : Hid ((bs (sha (turn k 54 ++ ls.flatten))).toArray.size = 32) := by show _ = _; simp [bs_length, sha_length]
  have HO : Hid ((bs (hmac k ls.flatten)).toArray.size = 32) := by show _ = _; simp [bs_length, hmac_length]
  have HE : Hid (hmac k ls.flatten = sha (turn k 92 ++ sha (turn k 54 ++ ls.flatten))) := rfl
  obtain ⟨iS, hiS, hzS, hsS, hbS⟩ := info_parts Try.infoS
  clear h hp hk hl hn
  go_enter Try.func50, Try.ntmps50
  go_wp2_with (first
    | (refine wpList_store_row' rfl 26 (.tmp 5) (.tmp 11) rfl _ _ rfl rfl _ _ (heap_alloc_new _ _) (by rw [HI.out]; kernel_rfl) (by rw [HI.out]; kernel_rfl) (by simpa using bs_one) ?_; intro w4 a1 a2 a3 a4; have D1 := _root_.Go.Lib.hid a1; have D2 : Hid (No w w4) := (C1.out.alloc _).trans a4 (fun j hj e => by have := C1.out.size; omega); have D3 : Hid (w4.heap[w.heap.size]? = some (.cells (List.replicate 32 (.int .u8 0)).toArray 26 (0, 0))) := (a2 _ (by have := C3.out; omega)).trans ((Below.heap_alloc _ _ _ C3.out).trans C2.out); clear a1 a2 a3 a4)
    | (go_at_call 57; refine (shaSum_is _ (turn k 54 :: ls) (turn k 54 ++ ls.flatten) _ B2.out (by simp) (by rw [List.length_append, turn_length]; have := HL.out; omega)).mono ?_; rintro e w3 ⟨rfl, hn⟩; have C1 := _root_.Go.Lib.hid (B3.out.trans hn (fun _ _ a => a)); have C2 : Hid (w3.heap[w.heap.size]? = _) := hn.heap B4.out id; have C3 : Hid (w.heap.size < w3.heap.size) := lt_of_heap C2.out; clear hn)
    | (at_builtin; refine wpList_append_ow rfl (.tmp 8) (.tmp 9) 96 96 rfl 22 iS _ 24 Try.underlying96 hiS hzS hsS hbS rfl (Ow.one 0 w1 (.slice (some ⟨g1, 0, none⟩) 64 64) _ rfl) rfl _ rfl ls.length _ (Rd.src Try.underlying96 A5.out) (by have := HN.out; unfold maxLen; omega) (by have := HN.out; omega) (Nat.zero_le _) ?_; intro v2 w2 hv2 hg2 _ _;
        have B3 : Hid (No w w2) := (A3.out.alloc _).trans (Fr.of_grown hg2) (fun j hj e => by simp [Value.ownBlock] at e; have := A3.out.size; omega);
        have B1 : Hid (RB w2 (.slice (some ⟨g1, 0, none⟩) 64 64) (turn k 54)) := Rd.fr ((RB.of_heap 64 A1.out (turn_length _ _) (by omega)).alloc _) (Fr.of_grown hg2) (fun j hj e => by simp [Value.ownBlock] at hj e; have := lt_of_heap A1.out; omega);
        have B2 : Hid (RBs w2 v2 (turn k 54 :: ls)) := RBs.cons hv2 B1.out A5.out A6.out A7.out B3.out;
        have B4 : Hid (w2.heap[w.heap.size]? = some (.cells (List.replicate 32 (.int .u8 0)).toArray 26 (0, 0))) := ((Fr.of_grown hg2).heap ((A3'.out.alloc _).heap (heap_alloc_new w _) id) (fun e => by simp [Value.ownBlock] at e; have := A3'.out.size; simp at this; omega)); clear hv2 hg2)
    | (go_at_call 64; refine (turned_any _ k _ 54 rfl _ (HV.out.alloc _) HK.out).mono ?_; rintro e w1 ⟨g1, rfl, hg1, hn, hgs⟩; have A1 := _root_.Go.Lib.hid hg1; have A2 := _root_.Go.Lib.hid hn; have A3 : Hid (No w w1) := ((Fr.refl _ w).alloc _).trans hn (fun _ _ a => a); obtain ⟨vs, hr1, hr2, hr3⟩ := HP.out; have A6 := _root_.Go.Lib.hid hr2; have A7 := _root_.Go.Lib.hid hr3; have A3' : Hid (No _ w1) := hn; have A5 : Hid (Rd 1 (w1.alloc (.cells #[.slice (some ⟨g1, 0, none⟩) 64 64] 22)) pv ls.length vs) := (hr1.no A3.out).alloc _; clear hg1 hn hgs hr1 hr2 hr3))
  have HIR : Hid (RB w4 (.slice (some ⟨w3.heap.size, 0, none⟩) 32 32) (sha (turn k 54 ++ ls.flatten))) := RB.of_heap 32 D1.out (sha_length _) (by omega)
  clear hiS hzS hsS hbS
  obtain ⟨sm, hsm⟩ : ∃ sm, sha (turn k 92 ++ sha (turn k 54 ++ ls.flatten)) = sm := ⟨_, rfl⟩
  have hone : ∀ v ∈ bs sm, v.oneCell' = true := bs_one
  have hlen : (bs sm).length = 32 := by rw [bs_length, ← hsm, sha_length]
  have hinf : (Try.prog.info? 26).map (·.size) = some (bs sm).length := by rw [hlen]; kernel_rfl
  have HSM := _root_.Go.Lib.hid hsm
  clear hsm
  have hun := Try.underlying26
  go_region_held3 (fun x => x.there w.heap.size 0 32) (first | exact (World.there_drew _ _ _ _).2 (there_of_heap 32 D3.out rfl) | exact there_of_heap 32 E4.out rfl | exact World.there_alloc (there_of_heap 32 E4.out rfl) _ | exact there_of_heap 32 G2.out rfl | exact World.there_setCells (there_of_heap 32 G2.out rfl) _ _ _)
    (first
      | (go_at_call 57; refine (shaSum_is _ [turn k 92, sha (turn k 54 ++ ls.flatten)] (turn k 92 ++ sha (turn k 54 ++ ls.flatten)) _ (RBs.two _ _ _ _ _ _ E1.out E2.out) (by simp) (by rw [List.length_append, turn_length, sha_length]; omega)).mono ?_; rw [HSM.out]; rintro e w6 ⟨rfl, hn⟩; have G1 := _root_.Go.Lib.hid (E3.out.trans (((Fr.refl _ _).alloc _).trans hn (fun _ _ a => a)) (fun _ _ a => a)); have G2 : Hid (w6.heap[w.heap.size]? = _) := hn.heap ((Fr.alloc (Fr.refl (fun _ => False) _) _).heap E4.out id) id; clear hn)
      | (go_at_call 64; refine (turned_any _ k _ 92 rfl _ (HV.out.no D2.out.drew) HK.out).mono ?_; rintro e w5 ⟨g5, rfl, hg5, hn, hgs⟩; have E1 := _root_.Go.Lib.hid (RB.of_heap 64 hg5 (turn_length k 92) (by omega)); have E2 := _root_.Go.Lib.hid ((HIR.out.no (Fr.refl _ _).drew).no hn); have E3 := _root_.Go.Lib.hid (D2.out.drew.trans hn (fun _ _ a => a)); have E4 : Hid (w5.heap[w.heap.size]? = _) := hn.heap D3.out id; clear hg5 hn hgs))
  obtain ⟨q1, q2, q3, q4⟩ := arr_store G2.out (bs sm) (by rw [hlen]; rfl) hone
  have Q1 := _root_.Go.Lib.hid q1
  have Q4 := _root_.Go.Lib.hid q4
  have HLN := _root_.Go.Lib.hid hlen
  clear q1 q2 q3 q4 hone hlen hinf
  generalize w6.setCells w.heap.size 0 (bs sm) = w7 at *
  go_wp2
  refine bodyPost_cell rfl _ _ _ _ _ rfl Q1.out Try.underlying26 rfl (by rw [List.size_toArray, HLN.out]; kernel_rfl) rfl ⟨by rw [HE.out, HSM.out], G1.out.trans Q4.out (fun j hj e => by omega)⟩
end Go.Proofs.Ytbdkicmdidcdcaa
namespace Go.Proofs.Ytbdkicmdidcdcaa
open Go.RowKit

theorem HMAC_is (v : Value) (k : List UInt8) (pv : Value) (ls : List (List UInt8)) (m : List UInt8) (w : World) (h : RB w v k) (hp : RBs w pv ls) (hm : ls.flatten = m) (hk : k.length ≤ 1000000) (hl : m.length ≤ 800000000) (hn : ls.length ≤ 1000) :
    Calls Try.prog 50 #[v, pv] w fun e w' => e = .returned (.agg (bs (hmac k m)).toArray) ∧ No w w' := by
  subst hm; exact HMAC_any v k pv ls w h hp hk hl hn

/-- HKDF's bytes, 32 at a time: all of them, the last ones. -/
def ex (k info : List UInt8) : Nat → List UInt8 × List UInt8
  | 0 => ([], [])
  | i + 1 => ((ex k info i).1 ++ hmac k ((ex k info i).2 ++ (info ++ [UInt8.ofNat (i + 1)])), hmac k ((ex k info i).2 ++ (info ++ [UInt8.ofNat (i + 1)])))
theorem ex_length (k info : List UInt8) : ∀ i, (ex k info i).1.length = 32 * i ∧ (ex k info i).2.length ≤ 32
  | 0 => ⟨rfl, Nat.zero_le _⟩
  | i + 1 => by
    have := (ex_length k info i).1
    simp only [ex, List.length_append, this, hmac_length]
    exact ⟨by omega, Nat.le_refl _⟩
def expand (k info : List UInt8) (n : Nat) : List UInt8 := (ex k info ((n + 31) / 32)).1.take n
theorem expand_length (k info : List UInt8) (n : Nat) : (expand k info n).length = n := by
  unfold expand; rw [List.length_take, (ex_length k info _).1]; omega

theorem RB.form {w : World} {v : Value} {l : List UInt8} (h : RB w v l) : ∃ a c, v = .slice a l.length c := by
  rcases h.shape with ⟨rfl, rfl⟩ | ⟨g, off, cap, rfl, _⟩
  · exact ⟨_, _, rfl⟩
  · exact ⟨_, _, rfl⟩
theorem OB.shape {base : Nat} {w : World} {v : Value} {l : List UInt8} (h : OB base w v l) : (v = .slice none 0 0 ∧ l = []) ∨ ∃ g off cap, v = .slice (some ⟨g, off, none⟩) l.length cap ∧ l.length ≤ cap ∧ cap ≤ maxLen := by
  rcases h.rb.shape with h | ⟨g, off, cap, h1, h2, h3, _⟩
  · exact .inl h
  · exact .inr ⟨g, off, cap, h1, h2, h3⟩

set_option maxRecDepth 100000 in
set_option maxHeartbeats 2000000 in
theorem Expand_any (v : Value) (k : List UInt8) (iv : Value) (info : List UInt8) (n : Nat) (w : World) (h : RB w v k) (hi : RB w iv info) (hk : k.length ≤ 1000000) (hil : info.length ≤ 1000000) (hn1 : 1 ≤ n) (hn : n ≤ 8160) :
    Calls Try.prog 51 #[v, iv, .int .i64 n] w fun e w' => ∃ g off cap, e = .returned (.slice (some ⟨g, off, none⟩) n cap) ∧ RB w' (.slice (some ⟨g, off, none⟩) n cap) (expand k info n) ∧ No w w' ∧ w.heap.size ≤ g := by
  have HV := _root_.Go.Lib.hid h
  have HI := _root_.Go.Lib.hid hi
  have HK := _root_.Go.Lib.hid hk
  have HIL := _root_.Go.Lib.hid hil
  have hn1' : (1 : Int) ≤ n := by omega
  have hn' : (n : Int) ≤ 8160 := by omega
  have hn1n : ¬ ((n : Int) < 1) := by omega
  have hnn : ¬ ((8160 : Int) < n) := by omega
  have HX : Hid (expand k info n = (ex k info ((n + 31) / 32)).1.take n) := rfl
  obtain ⟨ivf, ivc, hivc⟩ := hi.form
  subst hivc
  clear h hi hk hil
  go_enter Try.func51, Try.ntmps51
  go_wp2_with fail
  obtain ⟨K, hK⟩ : ∃ K, (n + 31) / 32 = K := ⟨_, rfl⟩
  have HKK := _root_.Go.Lib.hid hK
  clear hK
  go_loopg [7, 8, 9] K (fun g x y z wr => ∃ j, g = K - j ∧ j ≤ K ∧ z = .int .u8 (((j + 1) % 256 : Nat) : Int) ∧ OB w.heap.size wr x (ex k info j).1 ∧ RB wr y (ex k info j).2 ∧ Newer w x ∧ No w wr)
  case atStart => exact ⟨0, by omega, by omega, rfl, OB.nil _ _, RB.nil _, Newer.nil _, Fr.refl _ _⟩
  case round =>
    obtain ⟨j, hg, hj, rfl, hO, hR, hW, hno⟩ := hrel
    have Zg := _root_.Go.Lib.hid hg
    have ZO := _root_.Go.Lib.hid hO
    have ZR := _root_.Go.Lib.hid hR
    have ZW := _root_.Go.Lib.hid hW
    have ZN := _root_.Go.Lib.hid hno
    have hl1 := (ex_length k info j).1
    have hl2 := (ex_length k info j).2
    have ZL : Hid (Rd 1 wr u7 (32 * j) (bs (ex k info j).1)) := by show Rd _ _ _ _ _; have := hO.rb; unfold RB at this; rwa [hl1] at this
    have HL1 := _root_.Go.Lib.hid hl1
    have HL2 := _root_.Go.Lib.hid hl2
    have hj8 : j ≤ 255 := by have := HKK.out; omega
    clear hg hO hR hW hno hl1 hl2
    by_cases hjk : j < K
    · have hlt : ((32 * j : Nat) : Int) < n := by have := HKK.out; omega
      have hltn : 32 * j < n := by have := HKK.out; omega
      have HB : Hid ((((j + 1) % 256 : Nat) : Int) = by8 (UInt8.ofNat (j + 1))) := by show _ = _; unfold by8; rw [UInt8.toNat_ofNat']
      have HE : Hid (ex k info (j + 1) = ((ex k info j).1 ++ hmac k ((ex k info j).2 ++ (info ++ [UInt8.ofNat (j + 1)])), hmac k ((ex k info j).2 ++ (info ++ [UInt8.ofNat (j + 1)])))) := rfl
      have hj256 : (j + 1) % 256 = j + 1 := by omega
      obtain ⟨hm, hhm⟩ : ∃ hm, hmac k ((ex k info j).2 ++ (info ++ [UInt8.ofNat (j + 1)])) = hm := ⟨_, rfl⟩
      have HHM := _root_.Go.Lib.hid hhm
      have HHL : Hid (hm.length = 32) := by show _ = _; rw [← hhm, hmac_length]
      have HHZ : Hid ((bs hm).toArray.size = 32) := by show _ = _; simp [bs_length, HHL.out]
      rw [hhm] at HE
      rw [HB.out]
      clear hhm
      obtain ⟨yb, hyb⟩ : ∃ yb, UInt8.ofNat (j + 1) = yb := ⟨_, rfl⟩
      have HYB := _root_.Go.Lib.hid hyb
      rw [hyb] at HHM ⊢
      clear hyb
      obtain ⟨ya, yc, hyv⟩ := ZR.out.form
      subst hyv
      obtain ⟨yl, hyl⟩ : ∃ yl, (ex k info j).2.length = yl := ⟨_, rfl⟩
      rw [hyl] at ZR ⊢
      have R3 : Hid (RBs ((wr.alloc (.cells #[.int .u8 (by8 yb)] 5)).alloc (.cells #[.slice ya yl yc, .slice ivf info.length ivc, .slice (some ⟨wr.heap.size, 0, none⟩) 1 1] 22)) (.slice (some ⟨wr.heap.size + 1, 0, none⟩) 3 3) [(ex k info j).2, info, [yb]]) := by
        have := RBs.three (wr.alloc (.cells #[.int .u8 (by8 yb)] 5)) 22 _ _ _ _ _ _ (ZR.out.alloc _) ((HI.out.no ZN.out).alloc _) (OB.one 0 wr 5 _ yb rfl).rb
        show RBs _ _ _
        simpa using this
      have R4 : Hid ([(ex k info j).2, info, [yb]].flatten = (ex k info j).2 ++ (info ++ [yb])) := by show _ = _; simp
      have R5 : Hid (((ex k info j).2 ++ (info ++ [yb])).length ≤ 800000000) := by show _ ≤ _; rw [List.length_append, List.length_append]; have := HL2.out; have := HIL.out; simp; omega
      obtain ⟨mm, hmm⟩ : ∃ mm, (ex k info j).2 ++ (info ++ [yb]) = mm := ⟨_, rfl⟩
      obtain ⟨l3, hl3⟩ : ∃ l3, [(ex k info j).2, info, [yb]] = l3 := ⟨_, rfl⟩
      have R6 : Hid (l3.length ≤ 1000) := by show _ ≤ _; rw [← hl3]; simp
      rw [hmm] at R4 R5 HHM
      rw [hl3] at R3 R4
      clear hmm hl3
      go_wp2_with (first
        | (refine wpList_len rfl (.tmp 17) 22 5 rfl Try.underlying22 u7 1 _ _ ZL.out rfl ?_)
        | (at_builtin; refine wpList_append_bytes rfl (.tmp 31) (.tmp 32) 22 22 rfl 5 Try.underlying22 Try.info5 (ZO.out.no A4.out) rfl _ rfl hm (RB.src Try.underlying22 A5.out) (by rw [HL1.out, HHL.out]; omega) (Nat.le_trans ZN.out.size A4.out.size) ?_; intro v9 w9 hv9 hg9 _; have B1 := _root_.Go.Lib.hid hv9; have B2 := _root_.Go.Lib.hid (Gw.fresh (ZN.out.trans A4.out (fun _ _ a => a)) ZW.out hg9); have B3 : Hid (RB w9 (.slice (some ⟨w8.heap.size, 0, none⟩) 32 32) hm) := (Rd.fr A5.out hg9.fr (fun q hq e => by have := ZO.out.rb.own q e.symm; have := A6.out; simp [Value.ownBlock] at hq; omega)); clear hv9 hg9)
        | (refine wpList_store_row' rfl 26 (.tmp 10) (.tmp 29) rfl _ _ rfl rfl _ _ (heap_alloc_new _ _) (by rw [HHZ.out]; kernel_rfl) (by rw [HHZ.out]; kernel_rfl) (by simpa using bs_one) ?_; intro w7 a1 a2 a3 a4; have A4 : Hid (No wr w7) := (A1.out.alloc _).trans a4 (fun q hq e => by have := A1.out.size; omega); have A5 := _root_.Go.Lib.hid (RB.of_heap 32 a1 HHL.out (by omega)); have A6 : Hid (wr.heap.size ≤ w8.heap.size) := A1.out.size; clear a1 a2 a3 a4)
        | (go_at_call 50; refine (HMAC_is _ k _ l3 mm _ (HV.out.no ((ZN.out.alloc _).alloc _)) R3.out R4.out HK.out R5.out R6.out).mono ?_; rw [HHM.out]; rintro e w8 ⟨rfl, hn8⟩; have A1 : Hid (No wr w8) := (((Fr.refl _ _).alloc _).alloc _).trans hn8 (fun _ _ a => a); clear hn8))
      go_roundg (K - (j + 1))
      case measure => have := Zg.out; omega
      case rel =>
        refine ⟨j + 1, rfl, by omega, ?_, ?_, ?_, B2.out.2, B2.out.1⟩
        · rw [← HYB.out]; unfold by8; rw [UInt8.toNat_ofNat']; go_num
        · rw [HE.out]; exact B1.out
        · rw [HE.out]; exact B3.out
    · obtain rfl : j = K := by omega
      have hge : ¬ (((32 * j : Nat) : Int) < n) := by have := HKK.out; omega
      have hgen : ¬ (32 * j < n) := by have := HKK.out; omega
      have hz : Hid (0 < j) := by have := HKK.out; show _ < _; omega
      have hgn : n ≤ 32 * j := by omega
      have ZS := ZO.out.rb.shape
      rcases ZS with ⟨rfl, e⟩ | ⟨g, off, cap, rfl, h1, h2, h3, _⟩
      · have h32 := HL1.out; rw [e] at h32; have := hz.out; simp only [List.length_nil] at h32; omega
      · rw [HL1.out] at ZO h1 ZW ⊢
        unfold maxLen at h2
        have hnc : n ≤ cap := by omega
        have hnc' : (n : Int) ≤ cap := by omega
        have hc' : (cap : Int) ≤ 9223372036854775807 := by omega
        go_wp2_with fail
        go_ret
        refine ⟨g, off, cap, rfl, ?_, ZN.out, ZW.out g rfl⟩
        rw [HX.out, HKK.out]
        exact ZO.out.rb.take n (by rw [HL1.out]; omega)

/-- In which bits two texts differ, up to a place. -/
def dif (a b : List UInt8) : Nat → UInt8
  | 0 => 0
  | i + 1 => dif a b i ||| (a.getD i 0 ^^^ b.getD i 0)
theorem or_zero (x y : UInt8) : x ||| y = 0 ↔ x = 0 ∧ y = 0 := by
  constructor
  · intro h
    have h1 : (x ||| y).toNat = 0 := by rw [h]; rfl
    rw [UInt8.toNat_or] at h1
    have h2 := Nat.or_eq_zero_iff.1 h1
    exact ⟨UInt8.toNat_inj.1 h2.1, UInt8.toNat_inj.1 h2.2⟩
  · rintro ⟨rfl, rfl⟩; rfl
theorem xor_zero (x y : UInt8) : x ^^^ y = 0 ↔ x = y := by
  constructor
  · intro h; exact UInt8.xor_eq_zero_iff.1 h
  · rintro rfl; exact UInt8.xor_self
theorem dif_zero (a b : List UInt8) : ∀ i, dif a b i = 0 ↔ ∀ j, j < i → a.getD j 0 = b.getD j 0
  | 0 => ⟨fun _ j h => absurd h (Nat.not_lt_zero _), fun _ => rfl⟩
  | i + 1 => by
    rw [dif, or_zero, dif_zero a b i, xor_zero]
    constructor
    · rintro ⟨h1, h2⟩ j hj
      rcases Nat.lt_succ_iff_lt_or_eq.1 hj with h | rfl
      · exact h1 j h
      · exact h2
    · intro h
      exact ⟨fun j hj => h j (by omega), h i (by omega)⟩
theorem dif_all (a b : List UInt8) (h : a.length = b.length) : dif a b a.length = 0 ↔ a = b := by
  rw [dif_zero]
  constructor
  · intro hh
    refine List.ext_getElem h fun j h1 h2 => ?_
    have := hh j h1
    rwa [List.getD_eq_getElem?_getD, List.getD_eq_getElem?_getD, List.getElem?_eq_getElem h1, List.getElem?_eq_getElem h2] at this
  · rintro rfl j _; rfl

set_option maxRecDepth 100000 in
set_option maxHeartbeats 1000000 in
theorem Same_any (u v : Value) (a b : List UInt8) (w : World) (hu : RB w u a) (hv : RB w v b) :
    Calls Try.prog 58 #[u, v] w fun e w' => e = .returned (.bool (decide (a = b))) ∧ No w w' := by
  have HU := _root_.Go.Lib.hid hu
  have HV := _root_.Go.Lib.hid hv
  obtain ⟨ua, uc, hua⟩ := hu.form
  obtain ⟨va, vc, hva⟩ := hv.form
  subst hua hva
  have hsu := hu.shape
  have hsv := hv.shape
  obtain ⟨n, hn⟩ : ∃ n, a.length = n := ⟨_, rfl⟩
  obtain ⟨m, hm⟩ : ∃ m, b.length = m := ⟨_, rfl⟩
  have hn1 : (n : Int) ≤ 9223372036854775807 := by
    rcases hsu with ⟨_, h⟩ | ⟨_, _, cap, _, h1, h2, _⟩
    · rw [h] at hn; simp at hn; omega
    · unfold maxLen at h2; omega
  have HN := _root_.Go.Lib.hid hn
  have HM := _root_.Go.Lib.hid hm
  have HSU := _root_.Go.Lib.hid hsu
  have HSV := _root_.Go.Lib.hid hsv
  rw [hn] at HU HSU ⊢
  rw [hm] at HV HSV ⊢
  clear hu hv hsu hsv hn hm
  by_cases hnm : n = m
  · subst hnm
    have HD : Hid (dif a b n = 0 ↔ a = b) := by show _ ↔ _; have := dif_all a b (by rw [HN.out, HM.out]); rwa [HN.out] at this
    go_enter Try.func58, Try.ntmps58
    go_wp2_with fail
    go_loopw [5, 14] (fun x y wr => ∃ i : Nat, i ≤ n ∧ y = .int .i64 i ∧ x = .int .u8 (by8 (dif a b i)) ∧ No w wr) (fun _ y _ => n - (intOf y).toNat)
    case atStart => exact ⟨0, by omega, rfl, rfl, Fr.refl _ _⟩
    case round =>
      obtain ⟨i, hi, rfl, rfl, hno⟩ := hrel
      have ZN := _root_.Go.Lib.hid hno
      clear hno
      by_cases hin : (i : Int) < n
      · have hin' : i < n := by omega
        have hi0 : (0 : Int) ≤ i := by omega
        rcases HSU.out with ⟨_, h⟩ | ⟨g, off, cap, hq, _, _, hg, hc⟩
        · have := HN.out; rw [h] at this; simp at this; omega
        rcases HSV.out with ⟨_, h⟩ | ⟨g2, off2, cap2, hq2, _, _, hg2, hc2⟩
        · have := HM.out; rw [h] at this; simp at this; omega
        have hc' := hc i hin'
        have hc2' := hc2 i hin'
        simp only [Value.slice.injEq] at hq hq2
        obtain ⟨rfl, _, rfl⟩ := hq
        obtain ⟨rfl, _, rfl⟩ := hq2
        have d1 : wr.cell? ⟨g, off + i, none⟩ = some (.int .u8 (by8 (a.getD i 0))) := (ZN.out.cell (p := ⟨g, off + i, none⟩) hg id).trans hc'
        have d2 : wr.cell? ⟨g2, off2 + i, none⟩ = some (.int .u8 (by8 (b.getD i 0))) := (ZN.out.cell (p := ⟨g2, off2 + i, none⟩) hg2 id).trans hc2'
        have HE : Hid (dif a b i ||| (a.getD i 0 ^^^ b.getD i 0) = dif a b (i + 1)) := rfl
        generalize a.getD i 0 = ai at *
        generalize b.getD i 0 = bi at *
        clear hc hc2 hc' hc2'
        go_wp2_with fail
        go_quiet (fail)
        go_wp2
        go_roundw
        case rel => exact ⟨i + 1, by omega, by go_num, by rw [HE.out], ZN.out.trans ((Fr.refl _ _).drewN _) (fun _ _ a => a)⟩
        case measure => simp [intOf]; omega
      · obtain rfl : i = n := by omega
        go_wp2
        go_ret
        refine ⟨ret_bool ?_, ZN.out⟩
        rw [Bool.eq_iff_iff]
        simp only [decide_eq_true_eq, beq_iff_eq]
        rw [← HD.out]
        constructor
        · intro h; exact by8_inj h
        · intro h; rw [h]; rfl
  · have hnm' : ¬ ((n : Int) = m) := by omega
    go_enter Try.func58, Try.ntmps58
    go_wp2
    go_ret
    refine ⟨ret_bool ?_, Fr.refl _ _⟩
    rw [decide_eq_false]
    rintro rfl
    exact hnm (HN.out.symm.trans HM.out)
end Go.Proofs.Ytbdkicmdidcdcaa
namespace Go.Proofs.Ytbdkicmdidcdcaa
open Go.RowKit

def jefe : List UInt8 := [74, 101, 102, 101]
def what1 : List UInt8 := [119, 104, 97, 116, 32, 100, 111, 32, 121, 97, 32, 119, 97, 110, 116, 32]
def what2 : List UInt8 := [102, 111, 114, 32, 110, 111, 116, 104, 105, 110, 103, 63]
theorem sha_abc : (sha [97, 98, 99]).getD 0 0 = 186 ∧ (sha [97, 98, 99]).getD 1 0 = 120 ∧ (sha [97, 98, 99]).getD 31 0 = 173 := by decide +kernel
theorem hmac_jefe : (hmac jefe (what1 ++ what2)).getD 0 0 = 91 ∧ (hmac jefe (what1 ++ what2)).getD 1 0 = 220 ∧ (hmac jefe (what1 ++ what2)).getD 31 0 = 67 := by decide +kernel
theorem cell_bs {w : World} {g : Nat} {t : TypeId} {fz : Nat × Nat} {l : List UInt8} (h : w.heap[g]? = some (.cells (bs l).toArray t fz)) (j : Nat) (hj : j < l.length) (x : UInt8) (hx : l.getD j 0 = x) (X : Int) (hX : X = by8 x) : w.cell? ⟨g, j, none⟩ = some (.int .u8 X) := by
  rw [cell_of_row _ _ _ _ _ _ h, List.getElem?_toArray, bs_getD hj, hx, hX]

set_option maxRecDepth 100000 in
set_option maxHeartbeats 2000000 in
theorem begun3_any (w : World) : Calls Try.prog 48 #[] w fun e w' => e = .returned (.bool true) ∧ No w w' := by
  obtain ⟨sa, hsa⟩ : ∃ sa, sha [97, 98, 99] = sa := ⟨_, rfl⟩
  obtain ⟨hj, hhj⟩ : ∃ hj, hmac jefe (what1 ++ what2) = hj := ⟨_, rfl⟩
  have HSA := _root_.Go.Lib.hid hsa
  have HHJ := _root_.Go.Lib.hid hhj
  have e1 := sha_abc
  have e2 := hmac_jefe
  rw [hsa] at e1
  rw [hhj] at e2
  have E1 := _root_.Go.Lib.hid e1
  have E2 := _root_.Go.Lib.hid e2
  have LA : Hid (sa.length = 32) := by show _ = _; rw [← hsa, sha_length]
  have LJ : Hid (hj.length = 32) := by show _ = _; rw [← hhj, hmac_length]
  have ZA : Hid ((bs sa).toArray.size = 32) := by show _ = _; simp [bs_length, LA.out]
  have ZJ : Hid ((bs hj).toArray.size = 32) := by show _ = _; simp [bs_length, LJ.out]
  clear e1 e2 hsa hhj
  have A0 : Hid (RBs ((w.alloc (.cells #[.int .u8 97, .int .u8 98, .int .u8 99] 5 (3, 4))).alloc (.cells #[.slice (some ⟨w.heap.size, 0, none⟩) 3 3] 22)) (.slice (some ⟨w.heap.size + 1, 0, none⟩) 1 1) [[97, 98, 99]]) := by
    have := RBs.one (w.alloc (.cells #[.int .u8 97, .int .u8 98, .int .u8 99] 5 (3, 4))) 22 _ _ (RB.of_heap (l := [97, 98, 99]) 3 (heap_alloc_new w _) rfl (by omega))
    show RBs _ _ _
    simpa using this
  have B0 : Hid (∀ w4 : World, RB ((((w4.alloc (.cells (bs jefe).toArray 5 (4, 5))).alloc (.cells (bs what1).toArray 5 (16, 17))).alloc (.cells (bs what2).toArray 5 (12, 13))).alloc (.cells #[.slice (some ⟨w4.heap.size + 1, 0, none⟩) 16 16, .slice (some ⟨w4.heap.size + 2, 0, none⟩) 12 12] 22)) (.slice (some ⟨w4.heap.size, 0, none⟩) 4 4) jefe) := fun w4 =>
    (((RB.of_heap (l := jefe) 4 (heap_alloc_new w4 _) rfl (by omega)).alloc _).alloc _).alloc _
  have B1 : Hid (∀ w4 : World, RBs ((((w4.alloc (.cells (bs jefe).toArray 5 (4, 5))).alloc (.cells (bs what1).toArray 5 (16, 17))).alloc (.cells (bs what2).toArray 5 (12, 13))).alloc (.cells #[.slice (some ⟨w4.heap.size + 1, 0, none⟩) 16 16, .slice (some ⟨w4.heap.size + 2, 0, none⟩) 12 12] 22)) (.slice (some ⟨w4.heap.size + 3, 0, none⟩) 2 2) [what1, what2]) := fun w4 => by
    have h1 := (RB.of_heap (l := what1) 16 (heap_alloc_new (w4.alloc (.cells (bs jefe).toArray 5 (4, 5))) (.cells (bs what1).toArray 5 (16, 17))) rfl (by omega)).alloc (.cells (bs what2).toArray 5 (12, 13))
    have h2 := (RB.of_heap (l := what2) 12 (heap_alloc_new ((w4.alloc (.cells (bs jefe).toArray 5 (4, 5))).alloc (.cells (bs what1).toArray 5 (16, 17))) (.cells (bs what2).toArray 5 (12, 13))) rfl (by omega))
    have := RBs.two _ 22 _ _ _ _ h1 h2
    simpa using this
  have S2 : Hid (∀ (w : World) (x y : UInt8), x = y → RB ((w.alloc (.cells #[.int .u8 1] 5)).alloc (.cells #[.int .u8 (by8 x)] 5)) (.slice (some ⟨w.heap.size + 1, 0, none⟩) 1 1) [y]) := fun w x y e => by
    have := (OB.one 0 (w.alloc (.cells #[.int .u8 1] 5)) 5 (.int .u8 (by8 x)) y (by rw [e])).rb
    rwa [show (w.alloc (.cells #[.int .u8 1] 5)).heap.size = w.heap.size + 1 from by simp] at this
  have S11 : Hid (∀ w : World, RB ((w.alloc (.cells #[.int .u8 1] 5)).alloc (.cells #[.int .u8 1] 5)) (.slice (some ⟨w.heap.size, 0, none⟩) 1 1) [1]) := fun w => (OB.one 0 w 5 _ 1 rfl).rb.alloc _
  have S12 : Hid (∀ w : World, RB ((w.alloc (.cells #[.int .u8 1] 5)).alloc (.cells #[.int .u8 2] 5)) (.slice (some ⟨w.heap.size, 0, none⟩) 1 1) [1]) := fun w => (OB.one 0 w 5 _ 1 rfl).rb.alloc _
  have hcv := fun (w : World) (C : Array Value) (n c : Nat) => _root_.Go.Lib.run_convert_bytes_const (P := Try.prog) w 22 5 C n c Try.underlying22 Try.underlying5
  have hcv2 : ∀ (w : World) (o : Obj) (C : Array Value) (n c : Nat), (convert 22 22 (.slice (some ⟨w.heap.size + 1, 0, none⟩) n c)).run Try.prog ((w.alloc o).alloc (.cells C 5)) = .ok (.slice (some ⟨w.heap.size + 1, 0, none⟩) n c) ((w.alloc o).alloc (.cells C 5 (C.size, C.size + 1))) := fun w o C n c => by
    have := hcv (w.alloc o) C n c
    rwa [show (w.alloc o).heap.size = w.heap.size + 1 from by simp] at this
  have hcv3 : ∀ (w : World) (o o2 : Obj) (C : Array Value) (n c : Nat), (convert 22 22 (.slice (some ⟨w.heap.size + 1 + 1, 0, none⟩) n c)).run Try.prog (((w.alloc o).alloc o2).alloc (.cells C 5)) = .ok (.slice (some ⟨w.heap.size + 1 + 1, 0, none⟩) n c) (((w.alloc o).alloc o2).alloc (.cells C 5 (C.size, C.size + 1))) := fun w o o2 C n c => by
    have := hcv ((w.alloc o).alloc o2) C n c
    rwa [show ((w.alloc o).alloc o2).heap.size = w.heap.size + 1 + 1 from by simp] at this
  go_enter Try.func48, Try.ntmps48
  go_wp2_with (first
    | (go_at_call 58; refine (Same_any _ _ [1] [2] _ (S12.out _) (S2.out _ 2 2 rfl)).mono ?_; rintro e w9 ⟨rfl, hn⟩; have G2 : Hid (No w w9) := F2.out.trans (((Fr.refl _ _).alloc _).alloc _ |>.trans hn (fun _ _ a => a)) (fun _ _ a => a); clear hn F1)
    | (go_at_call 58; refine (Same_any _ _ [1] [1] _ (S11.out _) (S2.out _ 1 1 rfl)).mono ?_; rintro e w8 ⟨rfl, hn⟩; have F2 : Hid (No w w8) := F1.out.trans (((Fr.refl _ _).alloc _).alloc _ |>.trans hn (fun _ _ a => a)) (fun _ _ a => a); clear hn)
    | (go_at_call 51; refine (Expand_any _ hj (.slice none 0 0) [] 40 w6 (RB.of_heap 32 D1.out LJ.out (by omega)) (RB.nil _) (by rw [LJ.out]; omega) (by simp) (by omega) (by omega)).mono ?_; rintro e w7 ⟨g7, o7, c7, rfl, _, hn, _⟩; have F1 : Hid (No w w7) := D2.out.trans hn (fun _ _ a => a); clear hn)
    | (refine wpList_store_row' rfl 26 (.tmp 2) (.tmp 14) rfl _ _ rfl rfl _ _ (heap_alloc_new _ _) (by rw [ZJ.out]; kernel_rfl) (by rw [ZJ.out]; kernel_rfl) (by simpa using bs_one) ?_; intro w6 a1 a2 a3 a4; have D1 := _root_.Go.Lib.hid a1; have D2 : Hid (No w w6) := (D0.out.alloc _).trans a4 (fun q hq e => by have := D0.out.size; omega); have D3 : Hid (w6.heap[w1.heap.size]? = some (.cells (bs sa).toArray 26 (0, 0))) := (a2 _ (by have := lt_of_heap C3.out; omega)).trans ((Fr.alloc (Fr.refl (fun _ => False) w5) _).heap C3.out id); have c0 := cell_bs D3.out 0 (by rw [LA.out]; omega) 186 E1.out.1 186 rfl; have c1 := cell_bs D3.out 1 (by rw [LA.out]; omega) 120 E1.out.2.1 120 rfl; have c2 := cell_bs D3.out 31 (by rw [LA.out]; omega) 173 E1.out.2.2 173 rfl; have d0 := cell_bs D1.out 0 (by rw [LJ.out]; omega) 91 E2.out.1 91 rfl; have d1 := cell_bs D1.out 1 (by rw [LJ.out]; omega) 220 E2.out.2.1 220 rfl; have d2 := cell_bs D1.out 31 (by rw [LJ.out]; omega) 67 E2.out.2.2 67 rfl; clear a1 a2 a3 a4)
    | (go_at_call 50; refine (HMAC_is _ jefe _ [what1, what2] (what1 ++ what2) _ (B0.out _) (B1.out _) (by simp) (by decide) (by decide) (by decide)).mono ?_; rw [HHJ.out]; rintro e w5 ⟨rfl, hn⟩; have D0 : Hid (No w w5) := C2.out.trans (((((Fr.refl _ _).alloc _).alloc _).alloc _).alloc _ |>.trans hn (fun _ _ a => a)) (fun _ _ a => a); have C3 : Hid (w5.heap[w1.heap.size]? = some (.cells (bs sa).toArray 26 (0, 0))) := ((((((Fr.refl (fun _ => False) w4).alloc _).alloc _).alloc _).alloc _).trans hn (fun _ _ a => a)).heap C1.out id; clear hn)
    | (refine wpList_store_row' rfl 26 (.tmp 1) (.tmp 6) rfl _ _ rfl rfl _ _ (heap_alloc_new _ _) (by rw [ZA.out]; kernel_rfl) (by rw [ZA.out]; kernel_rfl) (by simpa using bs_one) ?_; intro w4 a1 a2 a3 a4; have C1 := _root_.Go.Lib.hid a1; have C2 : Hid (No w w4) := (A1.out.alloc _).trans a4 (fun q hq e => by have := A1.out.size; omega); clear a1 a2 a3 a4)
    | (go_at_call 57; refine (shaSum_is _ [[97, 98, 99]] [97, 98, 99] _ A0.out rfl (by decide)).mono ?_; rw [HSA.out]; rintro e w1 ⟨rfl, hn⟩; have A1 : Hid (No w w1) := (((Fr.refl _ w).alloc _).alloc _).trans hn (fun _ _ a => a); clear hn))
  go_ret
  exact ⟨rfl, G2.out⟩
set_option maxRecDepth 100000 in
theorem Begun3_any (w : World) : Calls Try.prog 35 #[] w fun e w' => e = .returned (.bool true) ∧ No w w' := by
  go_enter Try.func35, Try.ntmps35
  go_wp2_with (go_at_call 48; refine (begun3_any _).mono ?_; rintro e w1 ⟨rfl, h1⟩; have A1 := _root_.Go.Lib.hid h1; clear h1)
  go_ret
  exact ⟨rfl, A1.out⟩
end Go.Proofs.Ytbdkicmdidcdcaa
