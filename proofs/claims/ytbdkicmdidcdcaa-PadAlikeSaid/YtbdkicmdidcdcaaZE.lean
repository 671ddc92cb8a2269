/-
  Regions that draw their order, walked step by step. ChaCha20: the quarter round, words, the first state. chacha.begin. chacha.Block. chacha.Block. chacha.Xor.
-/
import Derived.Test.YtbdkicmdidcdcaaZC
import Derived.Orders
import Derived.Test.YtbdkicmdidcdcaaZD
namespace Go.Proofs.Ytbdkicmdidcdcaa
open Go.RowKit

section
variable {P : Program} {ops : Array Oper} {Q : Exit → Act → World → Prop} {md : Region.Mode}
theorem wpOp_wp {i : Nat} {o : Oper} {K : Act → World → Prop} {a : Act} {w : World} (ho : ops[i]? = some o) (hw : Region.wanted o (yielded ops a.tmps) = true) (h : Oper.wp P o a w K Q) : wpOp P ops Q i K a w := by
  unfold wpOp; simp only [ho, hw, if_true]; exact .inl h
theorem wpAny_take' {i : Nat} {oi : Oper} {v : Value} {fuel : Nat} {listed : Array Bool} {a a' : Act} {w : World} (hi : ops[i]? = some oi)
    (hs : Region.noSelect ops = true) (hf : Region.free md ops listed i = true) (hr : (Region.ready md ops listed).contains i = true)
    (hQ : ∀ c a w, Q (.panic c) (a.put oi.dst v) w → Q (.panic c) a w) (hw : Region.wanted oi (yielded ops a.tmps) = true) (hy : ∀ w, (execOp a.eval oi).run P w = .ok (.value v) w) (ha : a.put oi.dst v = a')
    (h : wpAny P md ops Q fuel (listed.setIfInBounds i true) a' w) : wpAny P md ops Q (fuel + 1) listed a w :=
  wpAny_take hi hs hf hr hQ (.inl ⟨hw, hy⟩) (by rw [ha]; exact h)
/-- A load, where it comes up. -/
theorem wpOp_read {i : Nat} {o : Oper} {v : Value} {K : Act → World → Prop} {a a' : Act} {w : World} (ho : ops[i]? = some o) (hw : Region.wanted o (yielded ops a.tmps) = true) (hy : (execOp a.eval o).run P w = .ok (.value v) w) (ha : a.put o.dst v = a')
    (h : K a' w) : wpOp P ops Q i K a w := wpOp_wp ho hw (by unfold Oper.wp; rw [hy]; simp only [Oper.upon]; rw [ha]; exact h)
/-- What leaves no value, where it comes up. -/
theorem wpOp_skip {i : Nat} {o : Oper} {K : Act → World → Prop} {a a' : Act} {w w' : World} (ho : ops[i]? = some o) (hw : Region.wanted o (yielded ops a.tmps) = true) (hy : (execOp a.eval o).run P w = .ok .skip w') (ha : a.put o.dst undef = a')
    (h : K a' w') : wpOp P ops Q i K a w := wpOp_wp ho hw (by unfold Oper.wp; rw [hy]; simp only [Oper.upon]; rw [ha]; exact h)
theorem wpAny_eq {f : Nat} {l l' : Array Bool} {a : Act} {w : World} (h : wpAny P md ops Q f l a w) (e : l = l') : wpAny P md ops Q f l' a w := e ▸ h
theorem wpAny_one {i : Nat} {fuel : Nat} {listed : Array Bool} {a : Act} {w : World} (hr : Region.ready md ops listed = [i])
    (h : wpOp P ops Q i (wpAny P md ops Q fuel (listed.setIfInBounds i true)) a w) : wpAny P md ops Q (fuel + 1) listed a w :=
  wpAny_all hr (by simp) fun j hj => by simp at hj; subst hj; exact h
theorem cut_cont {f : Nat} {L : Array Bool} {A : Act} {W : World} {G : Prop} (main : wpAny P md ops Q f L A W → G) (cont : wpAny P md ops Q f L A W) : G := main cont
theorem wp_region_n {id : Nat} {a : Act} {w : World} (n : Nat) (hn : ops.size = n) (hm : P.follows .mixedOrders = true) (h : wpAny P .any ops Q n (Array.replicate n false) a w.drew) : (Code.region id ops true).wp P Q a w :=
  wp_region_any hm (by rw [hn]; exact h)
theorem wp_region_drew {id : Nat} {a : Act} {w : World} (hm : P.follows .mixedOrders = true) (h : wpAny P .any ops Q ops.size (Array.replicate ops.size false) a w.drew) : (Code.region id ops true).wp P Q a w :=
  wp_region_any hm h
end
end Go.Proofs.Ytbdkicmdidcdcaa
namespace Go.Proofs.Ytbdkicmdidcdcaa
open Go.RowKit

structure Q4 where
  a : UInt32
  b : UInt32
  c : UInt32
  d : UInt32
def qr (a b c d : UInt32) : Q4 :=
  ⟨a + b + ror (b ^^^ (c + ror (d ^^^ (a + b)) 16)) 20,
   ror (ror (b ^^^ (c + ror (d ^^^ (a + b)) 16)) 20 ^^^ (c + ror (d ^^^ (a + b)) 16 + ror (ror (d ^^^ (a + b)) 16 ^^^ (a + b + ror (b ^^^ (c + ror (d ^^^ (a + b)) 16)) 20)) 24)) 25,
   c + ror (d ^^^ (a + b)) 16 + ror (ror (d ^^^ (a + b)) 16 ^^^ (a + b + ror (b ^^^ (c + ror (d ^^^ (a + b)) 16)) 20)) 24,
   ror (ror (d ^^^ (a + b)) 16 ^^^ (a + b + ror (b ^^^ (c + ror (d ^^^ (a + b)) 16)) 20)) 24⟩
theorem results4 {fn : Func} {t u v x : Tmp} (h : fn.results = #[.tmp t, .tmp u, .tmp v, .tmp x]) (tmps : Array Value) (P : Program) (w : World) :
    (results fn tmps).run P w = .ok (.tuple #[tmps.getD t undef, tmps.getD u undef, tmps.getD v undef, tmps.getD x undef]) w := by simp [results, h]

set_option maxRecDepth 100000 in
set_option maxHeartbeats 1000000 in
theorem Quarter_any (a b c d : UInt32) (w : World) :
    Calls Try.prog 82 #[.int .u32 (wd a), .int .u32 (wd b), .int .u32 (wd c), .int .u32 (wd d)] w fun e w' => e = .returned (.tuple #[.int .u32 (wd (qr a b c d).a), .int .u32 (wd (qr a b c d).b), .int .u32 (wd (qr a b c d).c), .int .u32 (wd (qr a b c d).d)]) ∧ w' = w := by
  go_enter Try.func82, Try.ntmps82
  go_wp2_with (go_at_call 100; refine (rot_any _ _ _).mono ?_; rintro e w' ⟨rfl, rfl⟩)
  refine bodyPost_ret (results4 rfl _ _ _) rfl ?_
  exact ⟨rfl, rfl⟩

set_option maxRecDepth 100000 in
set_option maxHeartbeats 400000 in
theorem cword_any (v : Value) (l : List UInt8) (w : World) (h : RB w v l) (h4 : 4 ≤ l.length) :
    Calls Try.prog 101 #[v] w fun e w' => e = .returned (.int .u32 (wd (le32 (l.getD 0 0) (l.getD 1 0) (l.getD 2 0) (l.getD 3 0)))) ∧ ∃ n, w' = w.drewN n := by
  rcases h.shape with ⟨rfl, rfl⟩ | ⟨g, off, cap, rfl, h1, _, _, hc⟩
  · simp at h4
  have c0 : w.cell? ⟨g, off, none⟩ = _ := hc 0 (by omega)
  have c1 := hc 1 (by omega)
  have c2 := hc 2 (by omega)
  have c3 := hc 3 (by omega)
  have hL4 : (4 : Int) ≤ l.length := by omega
  have HE := _root_.Go.Lib.hid (le32_walk (l.getD 0 0) (l.getD 1 0) (l.getD 2 0) (l.getD 3 0))
  generalize l.length = L at *
  generalize l.getD 0 0 = x0 at *
  generalize l.getD 1 0 = x1 at *
  generalize l.getD 2 0 = x2 at *
  generalize l.getD 3 0 = x3 at *
  clear hc h
  go_enter Try.func101, Try.ntmps101
  go_wp2_with fail
  go_quiet (fail)
  go_wp2
  go_ret
  exact ⟨rfl, _, rfl⟩
end Go.Proofs.Ytbdkicmdidcdcaa
namespace Go.Proofs.Ytbdkicmdidcdcaa
open Go.RowKit

def kwd (l : List UInt8) (i : Nat) : UInt32 := le32 (l.getD (4 * i) 0) (l.getD (4 * i + 1) 0) (l.getD (4 * i + 2) 0) (l.getD (4 * i + 3) 0)
def kws (l : List UInt8) (i : Nat) : List UInt32 := (List.range i).map (kwd l)
theorem kws_length (l : List UInt8) (i : Nat) : (kws l i).length = i := by simp [kws]
theorem kws_succ (l : List UInt8) (i : Nat) : kws l (i + 1) = kws l i ++ [kwd l i] := by simp [kws, List.range_succ]
def sig4 : List UInt32 := [0x61707865, 0x3320646e, 0x79622d32, 0x6b206574]
def stK (key : List UInt8) (i : Nat) : List UInt32 := sig4 ++ (kws key i ++ List.replicate (12 - i) 0)
def stN (key : List UInt8) (ctr : UInt32) (nonce : List UInt8) (i : Nat) : List UInt32 := (sig4 ++ (kws key 8 ++ [ctr])) ++ (kws nonce i ++ List.replicate (3 - i) 0)
/-- The words at first. -/
def chaSt (key : List UInt8) (ctr : UInt32) (nonce : List UInt8) : List UInt32 := sig4 ++ (kws key 8 ++ ([ctr] ++ kws nonce 3))
theorem set_mid {α : Type} (a b : List α) (x y : α) (k : Nat) (h : k = a.length) : (a ++ x :: b).set k y = a ++ y :: b := by
  subst h; rw [List.set_append_right _ _ (Nat.le_refl _)]; simp
theorem stK_set (key : List UInt8) (i : Nat) (h : i < 8) : (stK key i).set (4 + i) (kwd key i) = stK key (i + 1) := by
  unfold stK
  rw [show 12 - i = (12 - (i + 1)) + 1 from by omega, List.replicate_succ, ← List.append_assoc, set_mid _ _ _ _ _ (by simp [sig4, kws_length]; omega), kws_succ]
  simp
theorem stK_all (key : List UInt8) (ctr : UInt32) (nonce : List UInt8) : (stK key 8).set 12 ctr = stN key ctr nonce 0 := by
  unfold stK stN
  rw [show 12 - 8 = 3 + 1 from rfl, List.replicate_succ, ← List.append_assoc, set_mid _ _ _ _ _ (by simp [sig4, kws_length])]
  simp [kws]
theorem stN_set (key : List UInt8) (ctr : UInt32) (nonce : List UInt8) (i : Nat) (h : i < 3) : (stN key ctr nonce i).set (13 + i) (kwd nonce i) = stN key ctr nonce (i + 1) := by
  unfold stN
  rw [show 3 - i = (3 - (i + 1)) + 1 from by omega, List.replicate_succ, ← List.append_assoc, set_mid _ _ _ _ _ (by simp [sig4, kws_length]; omega), kws_succ nonce i]
  simp only [List.append_assoc, List.cons_append, List.nil_append]
theorem stN_all (key : List UInt8) (ctr : UInt32) (nonce : List UInt8) : stN key ctr nonce 3 = chaSt key ctr nonce := by simp [stN, chaSt]
theorem stK_length (key : List UInt8) (i : Nat) (h : i ≤ 12) : (stK key i).length = 16 := by simp [stK, kws_length, sig4]; omega
theorem stN_length (key : List UInt8) (ctr : UInt32) (nonce : List UInt8) (i : Nat) (h : i ≤ 3) : (stN key ctr nonce i).length = 16 := by simp [stN, kws_length, sig4]; omega
theorem chaSt_length (key : List UInt8) (ctr : UInt32) (nonce : List UInt8) : (chaSt key ctr nonce).length = 16 := by simp [chaSt, kws_length, sig4]
theorem cell_ws {w : World} {g : Nat} {t : TypeId} {fz : Nat × Nat} {l : List UInt32} (h : w.heap[g]? = some (.cells (ws l).toArray t fz)) (j : Nat) (hj : j < l.length) : w.cell? ⟨g, j, none⟩ = some (.int .u32 (wd (l.getD j 0))) := by
  rw [cell_of_row _ _ _ _ _ _ h, List.getElem?_toArray, ws_getD hj]
theorem set_ws {w : World} {g : Nat} {t : TypeId} {fz : Nat × Nat} {l : List UInt32} (h : w.heap[g]? = some (.cells (ws l).toArray t fz)) (j : Nat) (x : UInt32) : (w.setCell ⟨g, j, none⟩ (.int .u32 (wd x))).heap[g]? = some (.cells (ws (l.set j x)).toArray t fz) := by
  rw [heap_setCell_row h, List.setIfInBounds_toArray, ws_set]
theorem frozen_row {w : World} {g : Nat} {t : TypeId} {cur : Array Value} (h : w.heap[g]? = some (.cells cur t (0, 0))) (j : Nat) : w.frozen? ⟨g, j, none⟩ = false := by simp [World.frozen?, h]

theorem alloc4 (w : World) (a b c d : Obj) : ((((w.alloc a).alloc b).alloc c).alloc d).heap[w.heap.size]? = some a ∧ ((((w.alloc a).alloc b).alloc c).alloc d).heap[w.heap.size + 1]? = some b ∧
    ((((w.alloc a).alloc b).alloc c).alloc d).heap[w.heap.size + 1 + 1]? = some c ∧ ((((w.alloc a).alloc b).alloc c).alloc d).heap[w.heap.size + 1 + 1 + 1]? = some d ∧ No w ((((w.alloc a).alloc b).alloc c).alloc d) := by
  have h1 : (w.alloc a).heap[w.heap.size]? = some a := heap_alloc_new w a
  have h2 := heap_alloc_new (w.alloc a) b
  have h3 := heap_alloc_new ((w.alloc a).alloc b) c
  have h4 := heap_alloc_new (((w.alloc a).alloc b).alloc c) d
  have e : ∀ (w : World) (o : Obj), (w.alloc o).heap.size = w.heap.size + 1 := fun w o => by simp
  rw [e] at h2
  rw [e, e] at h3
  rw [e, e, e] at h4
  exact ⟨(Fr.alloc (Fr.alloc (Fr.alloc (Fr.refl (fun _ => False) _) _) _) _).heap h1 id, (Fr.alloc (Fr.alloc (Fr.refl (fun _ => False) _) _) _).heap h2 id, (Fr.alloc (Fr.refl (fun _ => False) _) _).heap h3 id, h4, (((Fr.refl _ _).alloc _).alloc _ |>.alloc _).alloc _⟩
theorem RB.dropN {w : World} {g : Nat} {e : TypeId} {fz : Nat × Nat} {l : List UInt8} (n k : Nat) (h : w.heap[g]? = some (.cells (bs l).toArray e fz)) (hn : l.length = n) (hm : n ≤ 1000000000) (hk : k ≤ n) : RB w (.slice (some ⟨g, k, none⟩) (n - k) (n - k)) (l.drop k) := by
  have := (RB.of_heap n h hn hm).drop k (by omega)
  rwa [Nat.zero_add] at this

/-- The blocks of chacha.begin. -/
structure CI (w wr : World) (key nonce : List UInt8) (s : List UInt32) : Prop where
  k : wr.heap[w.heap.size]? = some (.cells (bs key).toArray 25 (0, 0))
  n : wr.heap[w.heap.size + 1]? = some (.cells (bs nonce).toArray 84 (0, 0))
  o : wr.heap[w.heap.size + 1 + 1]? = some (.cells (ws (List.replicate 16 0)).toArray 131 (0, 0))
  s : wr.heap[w.heap.size + 1 + 1 + 1]? = some (.cells (ws s).toArray 131 (0, 0))
  no : No w wr
theorem CI.drew {w wr : World} {key nonce : List UInt8} {s : List UInt32} (h : CI w wr key nonce s) (n : Nat) : CI w (wr.drewN n) key nonce s :=
  ⟨h.k, h.n, h.o, h.s, h.no.trans ((Fr.refl _ _).drewN n) (fun _ _ a => a)⟩
theorem CI.set {w wr : World} {key nonce : List UInt8} {s : List UInt32} (h : CI w wr key nonce s) (j : Nat) (x : UInt32) : CI w (wr.setCell ⟨w.heap.size + 1 + 1 + 1, j, none⟩ (.int .u32 (wd x))) key nonce (s.set j x) :=
  ⟨heap_setCell_ne h.k _ (by simp only; omega), heap_setCell_ne h.n _ (by simp only; omega), heap_setCell_ne h.o _ (by simp only; omega), set_ws h.s j x, h.no.setCell _ _ (fun e => by simp only at e; omega)⟩

set_option maxRecDepth 100000 in
set_option maxHeartbeats 2000000 in
theorem cbegin_any (key nonce : List UInt8) (ctr : UInt32) (w : World) (hk : key.length = 32) (hn : nonce.length = 12) :
    Calls Try.prog 92 #[.agg (bs key).toArray, .int .u32 (wd ctr), .agg (bs nonce).toArray] w fun e w' => e = .returned (.agg (ws (chaSt key ctr nonce)).toArray) ∧ No w w' := by
  have HK := _root_.Go.Lib.hid hk
  have HN := _root_.Go.Lib.hid hn
  obtain ⟨ss, hss⟩ : ∃ ss, chaSt key ctr nonce = ss := ⟨_, rfl⟩
  have HZ : Hid (stN key ctr nonce 3 = ss) := by show _ = _; rw [← hss]; exact stN_all key ctr nonce
  have HL : Hid ((ws ss).toArray.size = 16) := by show _ = _; rw [← hss]; simp [ws_length, chaSt_length]
  rw [hss]
  clear hk hn hss
  go_enter Try.func92, Try.ntmps92
  go_wp2_with fail
  go_loopw [11] (fun x wr => ∃ i : Nat, i ≤ 8 ∧ x = .int .i64 i ∧ CI w wr key nonce (stK key i)) (fun x _ => 8 - (intOf x).toNat)
  case atStart =>
    obtain ⟨h1, h2, h3, h4, h5⟩ := alloc4 w (.cells (bs key).toArray 25) (.cells (bs nonce).toArray 84) (.cells (ws (List.replicate 16 0)).toArray 131) (.cells (ws (stK key 0)).toArray 131)
    exact ⟨0, by omega, rfl, h1, h2, h3, h4, h5⟩
  case round =>
    obtain ⟨i, hi, rfl, hC⟩ := hrel
    have ZC := _root_.Go.Lib.hid hC
    clear hC
    by_cases hlt : i < 8
    · have hlt' : (i : Int) < 8 := by omega
      have h4i : (4 * (i : Int)) ≤ 32 := by omega
      have h4n : 4 * i ≤ 32 := by omega
      have h40 : (0 : Int) ≤ 4 * (i : Int) := by omega
      have hne : ¬ (4 * i = 32) := by omega
      have hne' : ¬ (32 = 4 * i) := by omega
      have ZR := _root_.Go.Lib.hid (RB.dropN 32 (4 * i) ZC.out.k HK.out (by omega) (by omega))
      have ZL : Hid (4 ≤ (key.drop (4 * i)).length) := by show _ ≤ _; rw [List.length_drop, HK.out]; omega
      have HE : Hid (le32 ((key.drop (4 * i)).getD 0 0) ((key.drop (4 * i)).getD 1 0) ((key.drop (4 * i)).getD 2 0) ((key.drop (4 * i)).getD 3 0) = kwd key i) := by
        show _ = _; rw [drop_getD key (4 * i) 0, drop_getD key (4 * i) 1, drop_getD key (4 * i) 2, drop_getD key (4 * i) 3]; rfl
      have c0 := cell_ws ZC.out.s (4 + i) (by rw [stK_length _ _ (by omega)]; omega)
      have f0 := frozen_row ZC.out.s (4 + i)
      have HS := _root_.Go.Lib.hid (stK_set key i hlt)
      generalize (stK key i).getD (4 + i) 0 = old at *
      go_wp2_with (go_at_call 101; refine (cword_any _ _ _ ZR.out ZL.out).mono ?_; rw [HE.out]; rintro e w' ⟨rfl, kk, rfl⟩)
      go_roundw
      case rel => exact ⟨i + 1, by omega, by go_num, by rw [← HS.out]; exact (ZC.out.set (4 + i) (kwd key i)).drew kk⟩
      case measure => simp [intOf]; omega
    · obtain rfl : i = 8 := by omega
      have c0 := cell_ws ZC.out.s 12 (by rw [stK_length _ _ (by omega)]; omega)
      have f0 := frozen_row ZC.out.s 12
      generalize (stK key 8).getD 12 0 = old at *
      have ZD : Hid (CI w (wr.setCell ⟨w.heap.size + 1 + 1 + 1, 12, none⟩ (.int .u32 (wd ctr))) key nonce (stN key ctr nonce 0)) := by
        show CI _ _ _ _ _; rw [← stK_all]; exact ZC.out.set 12 ctr
      rw [show ((8 : Nat) : Int) = 8 from rfl]
      go_wp2_with fail
      go_loopw [24] (fun x wr => ∃ i : Nat, i ≤ 3 ∧ x = .int .i64 i ∧ CI w wr key nonce (stN key ctr nonce i)) (fun x _ => 3 - (intOf x).toNat)
      case atStart => exact ⟨0, by omega, rfl, ZD.out⟩
      case round =>
        obtain ⟨i, hi, rfl, hC⟩ := hrel
        clear ZC ZD
        have ZC := _root_.Go.Lib.hid hC
        clear hC
        by_cases hlt : i < 3
        · have hlt' : (i : Int) < 3 := by omega
          have h4i : (4 * (i : Int)) ≤ 12 := by omega
          have h4n : 4 * i ≤ 12 := by omega
          have h40 : (0 : Int) ≤ 4 * (i : Int) := by omega
          have hne : ¬ (4 * i = 12) := by omega
          have hne' : ¬ (12 = 4 * i) := by omega
          have ZR := _root_.Go.Lib.hid (RB.dropN 12 (4 * i) ZC.out.n HN.out (by omega) (by omega))
          have ZL : Hid (4 ≤ (nonce.drop (4 * i)).length) := by show _ ≤ _; rw [List.length_drop, HN.out]; omega
          have HE : Hid (le32 ((nonce.drop (4 * i)).getD 0 0) ((nonce.drop (4 * i)).getD 1 0) ((nonce.drop (4 * i)).getD 2 0) ((nonce.drop (4 * i)).getD 3 0) = kwd nonce i) := by
            show _ = _; rw [drop_getD nonce (4 * i) 0, drop_getD nonce (4 * i) 1, drop_getD nonce (4 * i) 2, drop_getD nonce (4 * i) 3]; rfl
          have c0 := cell_ws ZC.out.s (13 + i) (by rw [stN_length _ _ _ _ (by omega)]; omega)
          have f0 := frozen_row ZC.out.s (13 + i)
          have HS := _root_.Go.Lib.hid (stN_set key ctr nonce i hlt)
          generalize (stN key ctr nonce i).getD (13 + i) 0 = old2 at *
          go_wp2_with (go_at_call 101; refine (cword_any _ _ _ ZR.out ZL.out).mono ?_; rw [HE.out]; rintro e w' ⟨rfl, kk, rfl⟩)
          go_roundw
          case rel => exact ⟨i + 1, by omega, by go_num, by rw [← HS.out]; exact (ZC.out.set (13 + i) (kwd nonce i)).drew kk⟩
          case measure => simp [intOf]; omega
        · obtain rfl : i = 3 := by omega
          rw [HZ.out] at ZC
          go_wp2_with (first
            | (refine wpList_load_row rfl 131 (.tmp 7) rfl _ rfl _ _ _ _ ZC.out.s Try.underlying131 rfl (by rw [HL.out]; kernel_rfl) ?_)
            | (refine wpList_store_row' rfl 131 (.tmp 6) (.tmp 35) rfl _ _ rfl rfl _ _ ZC.out.o (by rw [HL.out]; kernel_rfl) (by rw [HL.out]; rfl) (by simpa using ws_one) ?_; intro w3 a1 a2 a3 a4; have F1 := _root_.Go.Lib.hid a1; have F4 := _root_.Go.Lib.hid a4; clear a1 a2 a3 a4))
          refine bodyPost_cell rfl _ _ _ _ _ rfl F1.out Try.underlying131 rfl (by rw [HL.out]; kernel_rfl) rfl ⟨rfl, ZC.out.no.trans F4.out (fun q hq e => by omega)⟩
end Go.Proofs.Ytbdkicmdidcdcaa
namespace Go.Proofs.Ytbdkicmdidcdcaa
open Go.RowKit
attribute [local go_sem ↓] Go.wp_at_zero Go.wp_at_succ

def turn4 (s : List UInt32) (a b c d : Nat) : List UInt32 :=
  (((s.set a (qr (s.getD a 0) (s.getD b 0) (s.getD c 0) (s.getD d 0)).a).set b (qr (s.getD a 0) (s.getD b 0) (s.getD c 0) (s.getD d 0)).b).set c (qr (s.getD a 0) (s.getD b 0) (s.getD c 0) (s.getD d 0)).c).set d (qr (s.getD a 0) (s.getD b 0) (s.getD c 0) (s.getD d 0)).d
theorem turn4_length (s : List UInt32) (a b c d : Nat) : (turn4 s a b c d).length = s.length := by simp [turn4]

set_option maxRecDepth 100000 in
set_option maxHeartbeats 1500000 in
theorem cturn_any (s : List UInt32) (g a b c d : Nat) (w : World) (h : w.heap[g]? = some (.cells (ws s).toArray 131 (0, 0))) (hs : s.length = 16) (ha : a < 16) (hb : b < 16) (hc : c < 16) (hd : d < 16)
    (hab : ¬ a = b) (hac : ¬ a = c) (had : ¬ a = d) (hbc : ¬ b = c) (hbd : ¬ b = d) (hcd : ¬ c = d) :
    Calls Try.prog 93 #[.int .i64 a, .int .i64 b, .int .i64 c, .int .i64 d, .pointer (some ⟨g, 0, none⟩)] w fun e w' => e = .returned (.tuple #[]) ∧ w'.heap[g]? = some (.cells (ws (turn4 s a b c d)).toArray 131 (0, 0)) ∧ Fr (fun k => k = g) w w' := by
  have HH := _root_.Go.Lib.hid h
  have HS := _root_.Go.Lib.hid hs
  have ca := cell_ws h a (by omega)
  have cb := cell_ws h b (by omega)
  have cc := cell_ws h c (by omega)
  have cd := cell_ws h d (by omega)
  have fa := frozen_row h a
  have fb := frozen_row h b
  have fc := frozen_row h c
  have fd := frozen_row h d
  have HT : Hid (turn4 s a b c d = (((s.set a (qr (s.getD a 0) (s.getD b 0) (s.getD c 0) (s.getD d 0)).a).set b (qr (s.getD a 0) (s.getD b 0) (s.getD c 0) (s.getD d 0)).b).set c (qr (s.getD a 0) (s.getD b 0) (s.getD c 0) (s.getD d 0)).c).set d (qr (s.getD a 0) (s.getD b 0) (s.getD c 0) (s.getD d 0)).d) := rfl
  generalize s.getD a 0 = xa at *
  generalize s.getD b 0 = xb at *
  generalize s.getD c 0 = xc at *
  generalize s.getD d 0 = xd at *
  have ha0 : (0 : Int) ≤ a := by omega
  have hb0 : (0 : Int) ≤ b := by omega
  have hc0 : (0 : Int) ≤ c := by omega
  have hd0 : (0 : Int) ≤ d := by omega
  have ha1 : (a : Int) < 16 := by omega
  have hb1 : (b : Int) < 16 := by omega
  have hc1 : (c : Int) < 16 := by omega
  have hd1 : (d : Int) < 16 := by omega
  clear h hs
  go_enter Try.func93, Try.ntmps93
  go_wp2_with fail
  have hba : ¬ b = a := fun e => hab e.symm
  have hca : ¬ c = a := fun e => hac e.symm
  have hda : ¬ d = a := fun e => had e.symm
  have hcb : ¬ c = b := fun e => hbc e.symm
  have hdb : ¬ d = b := fun e => hbd e.symm
  have hdc : ¬ d = c := fun e => hcd e.symm
  refine wp_region_n 30 (by rfl) (by kernel_rfl) ?_
  refine wpAny_take' (i := 0) (v := ?_) (a' := ?_) rfl (by kernel_rfl) (by kernel_rfl) (by kernel_rfl) (fun _ _ _ h => h) (by rfl) ?_ ?_ ?_
  rotate_left 2
  · intro wt; go_simp; exact rfl
  · go_simp; exact rfl
  refine wpAny_take' (i := 1) (v := ?_) (a' := ?_) rfl (by kernel_rfl) (by kernel_rfl) (by kernel_rfl) (fun _ _ _ h => h) (by rfl) ?_ ?_ ?_
  rotate_left 2
  · intro wt; go_simp; exact rfl
  · go_simp; exact rfl
  refine wpAny_take' (i := 2) (v := ?_) (a' := ?_) rfl (by kernel_rfl) (by kernel_rfl) (by kernel_rfl) (fun _ _ _ h => h) (by rfl) ?_ ?_ ?_
  rotate_left 2
  · intro wt; go_simp; exact rfl
  · go_simp; exact rfl
  refine wpAny_take' (i := 3) (v := ?_) (a' := ?_) rfl (by kernel_rfl) (by kernel_rfl) (by kernel_rfl) (fun _ _ _ h => h) (by rfl) ?_ ?_ ?_
  rotate_left 2
  · intro wt; go_simp; exact rfl
  · go_simp; exact rfl
  refine wpAny_take' (i := 4) (v := ?_) (a' := ?_) rfl (by kernel_rfl) (by kernel_rfl) (by kernel_rfl) (fun _ _ _ h => h) (by rfl) ?_ ?_ ?_
  rotate_left 2
  · intro wt; go_simp; exact rfl
  · go_simp; exact rfl
  refine wpAny_take' (i := 5) (v := ?_) (a' := ?_) rfl (by kernel_rfl) (by kernel_rfl) (by kernel_rfl) (fun _ _ _ h => h) (by rfl) ?_ ?_ ?_
  rotate_left 2
  · intro wt; go_simp; exact rfl
  · go_simp; exact rfl
  refine wpAny_take' (i := 7) (v := ?_) (a' := ?_) rfl (by kernel_rfl) (by kernel_rfl) (by kernel_rfl) (fun _ _ _ h => h) (by rfl) ?_ ?_ ?_
  rotate_left 2
  · intro wt; go_simp; exact rfl
  · go_simp; exact rfl
  refine wpAny_take' (i := 8) (v := ?_) (a' := ?_) rfl (by kernel_rfl) (by kernel_rfl) (by kernel_rfl) (fun _ _ _ h => h) (by rfl) ?_ ?_ ?_
  rotate_left 2
  · intro wt; go_simp; exact rfl
  · go_simp; exact rfl
  refine wpAny_take' (i := 10) (v := ?_) (a' := ?_) rfl (by kernel_rfl) (by kernel_rfl) (by kernel_rfl) (fun _ _ _ h => h) (by rfl) ?_ ?_ ?_
  rotate_left 2
  · intro wt; go_simp; exact rfl
  · go_simp; exact rfl
  refine wpAny_take' (i := 11) (v := ?_) (a' := ?_) rfl (by kernel_rfl) (by kernel_rfl) (by kernel_rfl) (fun _ _ _ h => h) (by rfl) ?_ ?_ ?_
  rotate_left 2
  · intro wt; go_simp; exact rfl
  · go_simp; exact rfl
  refine wpAny_take' (i := 13) (v := ?_) (a' := ?_) rfl (by kernel_rfl) (by kernel_rfl) (by kernel_rfl) (fun _ _ _ h => h) (by rfl) ?_ ?_ ?_
  rotate_left 2
  · intro wt; go_simp; exact rfl
  · go_simp; exact rfl
  refine wpAny_take' (i := 14) (v := ?_) (a' := ?_) rfl (by kernel_rfl) (by kernel_rfl) (by kernel_rfl) (fun _ _ _ h => h) (by rfl) ?_ ?_ ?_
  rotate_left 2
  · intro wt; go_simp; exact rfl
  · go_simp; exact rfl
  apply cut_cont (f := 14)
  case main =>
    intro H
    refine wpAny_all (rs := [6, 9, 12, 15]) (by kernel_rfl) (by simp) (fun i hi => ?_)
    simp only [List.mem_cons, List.not_mem_nil, or_false] at hi
    rcases hi with rfl | rfl | rfl | rfl
    · refine wpOp_read (v := ?_) (a' := ?_) rfl (by rfl) ?_ ?_ ?_
      rotate_left 2
      · go_simp; exact rfl
      · go_simp; exact rfl
      refine wpAny_all (rs := [9, 12, 15]) (by kernel_rfl) (by simp) (fun i hi => ?_)
      simp only [List.mem_cons, List.not_mem_nil, or_false] at hi
      rcases hi with rfl | rfl | rfl
      · refine wpOp_read (v := ?_) (a' := ?_) rfl (by rfl) ?_ ?_ ?_
        rotate_left 2
        · go_simp; exact rfl
        · go_simp; exact rfl
        refine wpAny_all (rs := [12, 15]) (by kernel_rfl) (by simp) (fun i hi => ?_)
        simp only [List.mem_cons, List.not_mem_nil, or_false] at hi
        rcases hi with rfl | rfl
        · refine wpOp_read (v := ?_) (a' := ?_) rfl (by rfl) ?_ ?_ ?_
          rotate_left 2
          · go_simp; exact rfl
          · go_simp; exact rfl
          refine wpAny_one (i := 15) (by kernel_rfl) ?_
          refine wpOp_read (v := ?_) (a' := ?_) rfl (by rfl) ?_ ?_ ?_
          rotate_left 2
          · go_simp; exact rfl
          · go_simp; exact rfl
          exact H
        · refine wpOp_read (v := ?_) (a' := ?_) rfl (by rfl) ?_ ?_ ?_
          rotate_left 2
          · go_simp; exact rfl
          · go_simp; exact rfl
          refine wpAny_one (i := 12) (by kernel_rfl) ?_
          refine wpOp_read (v := ?_) (a' := ?_) rfl (by rfl) ?_ ?_ ?_
          rotate_left 2
          · go_simp; exact rfl
          · go_simp; exact rfl
          exact wpAny_eq H (by kernel_rfl)
      · refine wpOp_read (v := ?_) (a' := ?_) rfl (by rfl) ?_ ?_ ?_
        rotate_left 2
        · go_simp; exact rfl
        · go_simp; exact rfl
        refine wpAny_all (rs := [9, 15]) (by kernel_rfl) (by simp) (fun i hi => ?_)
        simp only [List.mem_cons, List.not_mem_nil, or_false] at hi
        rcases hi with rfl | rfl
        · refine wpOp_read (v := ?_) (a' := ?_) rfl (by rfl) ?_ ?_ ?_
          rotate_left 2
          · go_simp; exact rfl
          · go_simp; exact rfl
          refine wpAny_one (i := 15) (by kernel_rfl) ?_
          refine wpOp_read (v := ?_) (a' := ?_) rfl (by rfl) ?_ ?_ ?_
          rotate_left 2
          · go_simp; exact rfl
          · go_simp; exact rfl
          exact wpAny_eq H (by kernel_rfl)
        · refine wpOp_read (v := ?_) (a' := ?_) rfl (by rfl) ?_ ?_ ?_
          rotate_left 2
          · go_simp; exact rfl
          · go_simp; exact rfl
          refine wpAny_one (i := 9) (by kernel_rfl) ?_
          refine wpOp_read (v := ?_) (a' := ?_) rfl (by rfl) ?_ ?_ ?_
          rotate_left 2
          · go_simp; exact rfl
          · go_simp; exact rfl
          exact wpAny_eq H (by kernel_rfl)
      · refine wpOp_read (v := ?_) (a' := ?_) rfl (by rfl) ?_ ?_ ?_
        rotate_left 2
        · go_simp; exact rfl
        · go_simp; exact rfl
        refine wpAny_all (rs := [9, 12]) (by kernel_rfl) (by simp) (fun i hi => ?_)
        simp only [List.mem_cons, List.not_mem_nil, or_false] at hi
        rcases hi with rfl | rfl
        · refine wpOp_read (v := ?_) (a' := ?_) rfl (by rfl) ?_ ?_ ?_
          rotate_left 2
          · go_simp; exact rfl
          · go_simp; exact rfl
          refine wpAny_one (i := 12) (by kernel_rfl) ?_
          refine wpOp_read (v := ?_) (a' := ?_) rfl (by rfl) ?_ ?_ ?_
          rotate_left 2
          · go_simp; exact rfl
          · go_simp; exact rfl
          exact wpAny_eq H (by kernel_rfl)
        · refine wpOp_read (v := ?_) (a' := ?_) rfl (by rfl) ?_ ?_ ?_
          rotate_left 2
          · go_simp; exact rfl
          · go_simp; exact rfl
          refine wpAny_one (i := 9) (by kernel_rfl) ?_
          refine wpOp_read (v := ?_) (a' := ?_) rfl (by rfl) ?_ ?_ ?_
          rotate_left 2
          · go_simp; exact rfl
          · go_simp; exact rfl
          exact wpAny_eq H (by kernel_rfl)
    · refine wpOp_read (v := ?_) (a' := ?_) rfl (by rfl) ?_ ?_ ?_
      rotate_left 2
      · go_simp; exact rfl
      · go_simp; exact rfl
      refine wpAny_all (rs := [6, 12, 15]) (by kernel_rfl) (by simp) (fun i hi => ?_)
      simp only [List.mem_cons, List.not_mem_nil, or_false] at hi
      rcases hi with rfl | rfl | rfl
      · refine wpOp_read (v := ?_) (a' := ?_) rfl (by rfl) ?_ ?_ ?_
        rotate_left 2
        · go_simp; exact rfl
        · go_simp; exact rfl
        refine wpAny_all (rs := [12, 15]) (by kernel_rfl) (by simp) (fun i hi => ?_)
        simp only [List.mem_cons, List.not_mem_nil, or_false] at hi
        rcases hi with rfl | rfl
        · refine wpOp_read (v := ?_) (a' := ?_) rfl (by rfl) ?_ ?_ ?_
          rotate_left 2
          · go_simp; exact rfl
          · go_simp; exact rfl
          refine wpAny_one (i := 15) (by kernel_rfl) ?_
          refine wpOp_read (v := ?_) (a' := ?_) rfl (by rfl) ?_ ?_ ?_
          rotate_left 2
          · go_simp; exact rfl
          · go_simp; exact rfl
          exact wpAny_eq H (by kernel_rfl)
        · refine wpOp_read (v := ?_) (a' := ?_) rfl (by rfl) ?_ ?_ ?_
          rotate_left 2
          · go_simp; exact rfl
          · go_simp; exact rfl
          refine wpAny_one (i := 12) (by kernel_rfl) ?_
          refine wpOp_read (v := ?_) (a' := ?_) rfl (by rfl) ?_ ?_ ?_
          rotate_left 2
          · go_simp; exact rfl
          · go_simp; exact rfl
          exact wpAny_eq H (by kernel_rfl)
      · refine wpOp_read (v := ?_) (a' := ?_) rfl (by rfl) ?_ ?_ ?_
        rotate_left 2
        · go_simp; exact rfl
        · go_simp; exact rfl
        refine wpAny_all (rs := [6, 15]) (by kernel_rfl) (by simp) (fun i hi => ?_)
        simp only [List.mem_cons, List.not_mem_nil, or_false] at hi
        rcases hi with rfl | rfl
        · refine wpOp_read (v := ?_) (a' := ?_) rfl (by rfl) ?_ ?_ ?_
          rotate_left 2
          · go_simp; exact rfl
          · go_simp; exact rfl
          refine wpAny_one (i := 15) (by kernel_rfl) ?_
          refine wpOp_read (v := ?_) (a' := ?_) rfl (by rfl) ?_ ?_ ?_
          rotate_left 2
          · go_simp; exact rfl
          · go_simp; exact rfl
          exact wpAny_eq H (by kernel_rfl)
        · refine wpOp_read (v := ?_) (a' := ?_) rfl (by rfl) ?_ ?_ ?_
          rotate_left 2
          · go_simp; exact rfl
          · go_simp; exact rfl
          refine wpAny_one (i := 6) (by kernel_rfl) ?_
          refine wpOp_read (v := ?_) (a' := ?_) rfl (by rfl) ?_ ?_ ?_
          rotate_left 2
          · go_simp; exact rfl
          · go_simp; exact rfl
          exact wpAny_eq H (by kernel_rfl)
      · refine wpOp_read (v := ?_) (a' := ?_) rfl (by rfl) ?_ ?_ ?_
        rotate_left 2
        · go_simp; exact rfl
        · go_simp; exact rfl
        refine wpAny_all (rs := [6, 12]) (by kernel_rfl) (by simp) (fun i hi => ?_)
        simp only [List.mem_cons, List.not_mem_nil, or_false] at hi
        rcases hi with rfl | rfl
        · refine wpOp_read (v := ?_) (a' := ?_) rfl (by rfl) ?_ ?_ ?_
          rotate_left 2
          · go_simp; exact rfl
          · go_simp; exact rfl
          refine wpAny_one (i := 12) (by kernel_rfl) ?_
          refine wpOp_read (v := ?_) (a' := ?_) rfl (by rfl) ?_ ?_ ?_
          rotate_left 2
          · go_simp; exact rfl
          · go_simp; exact rfl
          exact wpAny_eq H (by kernel_rfl)
        · refine wpOp_read (v := ?_) (a' := ?_) rfl (by rfl) ?_ ?_ ?_
          rotate_left 2
          · go_simp; exact rfl
          · go_simp; exact rfl
          refine wpAny_one (i := 6) (by kernel_rfl) ?_
          refine wpOp_read (v := ?_) (a' := ?_) rfl (by rfl) ?_ ?_ ?_
          rotate_left 2
          · go_simp; exact rfl
          · go_simp; exact rfl
          exact wpAny_eq H (by kernel_rfl)
    · refine wpOp_read (v := ?_) (a' := ?_) rfl (by rfl) ?_ ?_ ?_
      rotate_left 2
      · go_simp; exact rfl
      · go_simp; exact rfl
      refine wpAny_all (rs := [6, 9, 15]) (by kernel_rfl) (by simp) (fun i hi => ?_)
      simp only [List.mem_cons, List.not_mem_nil, or_false] at hi
      rcases hi with rfl | rfl | rfl
      · refine wpOp_read (v := ?_) (a' := ?_) rfl (by rfl) ?_ ?_ ?_
        rotate_left 2
        · go_simp; exact rfl
        · go_simp; exact rfl
        refine wpAny_all (rs := [9, 15]) (by kernel_rfl) (by simp) (fun i hi => ?_)
        simp only [List.mem_cons, List.not_mem_nil, or_false] at hi
        rcases hi with rfl | rfl
        · refine wpOp_read (v := ?_) (a' := ?_) rfl (by rfl) ?_ ?_ ?_
          rotate_left 2
          · go_simp; exact rfl
          · go_simp; exact rfl
          refine wpAny_one (i := 15) (by kernel_rfl) ?_
          refine wpOp_read (v := ?_) (a' := ?_) rfl (by rfl) ?_ ?_ ?_
          rotate_left 2
          · go_simp; exact rfl
          · go_simp; exact rfl
          exact wpAny_eq H (by kernel_rfl)
        · refine wpOp_read (v := ?_) (a' := ?_) rfl (by rfl) ?_ ?_ ?_
          rotate_left 2
          · go_simp; exact rfl
          · go_simp; exact rfl
          refine wpAny_one (i := 9) (by kernel_rfl) ?_
          refine wpOp_read (v := ?_) (a' := ?_) rfl (by rfl) ?_ ?_ ?_
          rotate_left 2
          · go_simp; exact rfl
          · go_simp; exact rfl
          exact wpAny_eq H (by kernel_rfl)
      · refine wpOp_read (v := ?_) (a' := ?_) rfl (by rfl) ?_ ?_ ?_
        rotate_left 2
        · go_simp; exact rfl
        · go_simp; exact rfl
        refine wpAny_all (rs := [6, 15]) (by kernel_rfl) (by simp) (fun i hi => ?_)
        simp only [List.mem_cons, List.not_mem_nil, or_false] at hi
        rcases hi with rfl | rfl
        · refine wpOp_read (v := ?_) (a' := ?_) rfl (by rfl) ?_ ?_ ?_
          rotate_left 2
          · go_simp; exact rfl
          · go_simp; exact rfl
          refine wpAny_one (i := 15) (by kernel_rfl) ?_
          refine wpOp_read (v := ?_) (a' := ?_) rfl (by rfl) ?_ ?_ ?_
          rotate_left 2
          · go_simp; exact rfl
          · go_simp; exact rfl
          exact wpAny_eq H (by kernel_rfl)
        · refine wpOp_read (v := ?_) (a' := ?_) rfl (by rfl) ?_ ?_ ?_
          rotate_left 2
          · go_simp; exact rfl
          · go_simp; exact rfl
          refine wpAny_one (i := 6) (by kernel_rfl) ?_
          refine wpOp_read (v := ?_) (a' := ?_) rfl (by rfl) ?_ ?_ ?_
          rotate_left 2
          · go_simp; exact rfl
          · go_simp; exact rfl
          exact wpAny_eq H (by kernel_rfl)
      · refine wpOp_read (v := ?_) (a' := ?_) rfl (by rfl) ?_ ?_ ?_
        rotate_left 2
        · go_simp; exact rfl
        · go_simp; exact rfl
        refine wpAny_all (rs := [6, 9]) (by kernel_rfl) (by simp) (fun i hi => ?_)
        simp only [List.mem_cons, List.not_mem_nil, or_false] at hi
        rcases hi with rfl | rfl
        · refine wpOp_read (v := ?_) (a' := ?_) rfl (by rfl) ?_ ?_ ?_
          rotate_left 2
          · go_simp; exact rfl
          · go_simp; exact rfl
          refine wpAny_one (i := 9) (by kernel_rfl) ?_
          refine wpOp_read (v := ?_) (a' := ?_) rfl (by rfl) ?_ ?_ ?_
          rotate_left 2
          · go_simp; exact rfl
          · go_simp; exact rfl
          exact wpAny_eq H (by kernel_rfl)
        · refine wpOp_read (v := ?_) (a' := ?_) rfl (by rfl) ?_ ?_ ?_
          rotate_left 2
          · go_simp; exact rfl
          · go_simp; exact rfl
          refine wpAny_one (i := 6) (by kernel_rfl) ?_
          refine wpOp_read (v := ?_) (a' := ?_) rfl (by rfl) ?_ ?_ ?_
          rotate_left 2
          · go_simp; exact rfl
          · go_simp; exact rfl
          exact wpAny_eq H (by kernel_rfl)
    · refine wpOp_read (v := ?_) (a' := ?_) rfl (by rfl) ?_ ?_ ?_
      rotate_left 2
      · go_simp; exact rfl
      · go_simp; exact rfl
      refine wpAny_all (rs := [6, 9, 12]) (by kernel_rfl) (by simp) (fun i hi => ?_)
      simp only [List.mem_cons, List.not_mem_nil, or_false] at hi
      rcases hi with rfl | rfl | rfl
      · refine wpOp_read (v := ?_) (a' := ?_) rfl (by rfl) ?_ ?_ ?_
        rotate_left 2
        · go_simp; exact rfl
        · go_simp; exact rfl
        refine wpAny_all (rs := [9, 12]) (by kernel_rfl) (by simp) (fun i hi => ?_)
        simp only [List.mem_cons, List.not_mem_nil, or_false] at hi
        rcases hi with rfl | rfl
        · refine wpOp_read (v := ?_) (a' := ?_) rfl (by rfl) ?_ ?_ ?_
          rotate_left 2
          · go_simp; exact rfl
          · go_simp; exact rfl
          refine wpAny_one (i := 12) (by kernel_rfl) ?_
          refine wpOp_read (v := ?_) (a' := ?_) rfl (by rfl) ?_ ?_ ?_
          rotate_left 2
          · go_simp; exact rfl
          · go_simp; exact rfl
          exact wpAny_eq H (by kernel_rfl)
        · refine wpOp_read (v := ?_) (a' := ?_) rfl (by rfl) ?_ ?_ ?_
          rotate_left 2
          · go_simp; exact rfl
          · go_simp; exact rfl
          refine wpAny_one (i := 9) (by kernel_rfl) ?_
          refine wpOp_read (v := ?_) (a' := ?_) rfl (by rfl) ?_ ?_ ?_
          rotate_left 2
          · go_simp; exact rfl
          · go_simp; exact rfl
          exact wpAny_eq H (by kernel_rfl)
      · refine wpOp_read (v := ?_) (a' := ?_) rfl (by rfl) ?_ ?_ ?_
        rotate_left 2
        · go_simp; exact rfl
        · go_simp; exact rfl
        refine wpAny_all (rs := [6, 12]) (by kernel_rfl) (by simp) (fun i hi => ?_)
        simp only [List.mem_cons, List.not_mem_nil, or_false] at hi
        rcases hi with rfl | rfl
        · refine wpOp_read (v := ?_) (a' := ?_) rfl (by rfl) ?_ ?_ ?_
          rotate_left 2
          · go_simp; exact rfl
          · go_simp; exact rfl
          refine wpAny_one (i := 12) (by kernel_rfl) ?_
          refine wpOp_read (v := ?_) (a' := ?_) rfl (by rfl) ?_ ?_ ?_
          rotate_left 2
          · go_simp; exact rfl
          · go_simp; exact rfl
          exact wpAny_eq H (by kernel_rfl)
        · refine wpOp_read (v := ?_) (a' := ?_) rfl (by rfl) ?_ ?_ ?_
          rotate_left 2
          · go_simp; exact rfl
          · go_simp; exact rfl
          refine wpAny_one (i := 6) (by kernel_rfl) ?_
          refine wpOp_read (v := ?_) (a' := ?_) rfl (by rfl) ?_ ?_ ?_
          rotate_left 2
          · go_simp; exact rfl
          · go_simp; exact rfl
          exact wpAny_eq H (by kernel_rfl)
      · refine wpOp_read (v := ?_) (a' := ?_) rfl (by rfl) ?_ ?_ ?_
        rotate_left 2
        · go_simp; exact rfl
        · go_simp; exact rfl
        refine wpAny_all (rs := [6, 9]) (by kernel_rfl) (by simp) (fun i hi => ?_)
        simp only [List.mem_cons, List.not_mem_nil, or_false] at hi
        rcases hi with rfl | rfl
        · refine wpOp_read (v := ?_) (a' := ?_) rfl (by rfl) ?_ ?_ ?_
          rotate_left 2
          · go_simp; exact rfl
          · go_simp; exact rfl
          refine wpAny_one (i := 9) (by kernel_rfl) ?_
          refine wpOp_read (v := ?_) (a' := ?_) rfl (by rfl) ?_ ?_ ?_
          rotate_left 2
          · go_simp; exact rfl
          · go_simp; exact rfl
          exact wpAny_eq H (by kernel_rfl)
        · refine wpOp_read (v := ?_) (a' := ?_) rfl (by rfl) ?_ ?_ ?_
          rotate_left 2
          · go_simp; exact rfl
          · go_simp; exact rfl
          refine wpAny_one (i := 6) (by kernel_rfl) ?_
          refine wpOp_read (v := ?_) (a' := ?_) rfl (by rfl) ?_ ?_ ?_
          rotate_left 2
          · go_simp; exact rfl
          · go_simp; exact rfl
          exact wpAny_eq H (by kernel_rfl)
  case cont =>
    refine wpAny_one (i := 16) (by kernel_rfl) (wpOp_wp rfl (by rfl) ?_)
    go_simp
    refine (Quarter_any _ _ _ _ _).mono ?_
    rintro e w' ⟨rfl, rfl⟩
    go_simp
    refine wpAny_take' (i := 17) (v := ?_) (a' := ?_) rfl (by kernel_rfl) (by kernel_rfl) (by kernel_rfl) (fun _ _ _ h => h) (by rfl) ?_ ?_ ?_
    rotate_left 2
    · intro wt; go_simp; exact rfl
    · go_simp; exact rfl
    refine wpAny_take' (i := 18) (v := ?_) (a' := ?_) rfl (by kernel_rfl) (by kernel_rfl) (by kernel_rfl) (fun _ _ _ h => h) (by rfl) ?_ ?_ ?_
    rotate_left 2
    · intro wt; go_simp; exact rfl
    · go_simp; exact rfl
    refine wpAny_take' (i := 19) (v := ?_) (a' := ?_) rfl (by kernel_rfl) (by kernel_rfl) (by kernel_rfl) (fun _ _ _ h => h) (by rfl) ?_ ?_ ?_
    rotate_left 2
    · intro wt; go_simp; exact rfl
    · go_simp; exact rfl
    refine wpAny_take' (i := 20) (v := ?_) (a' := ?_) rfl (by kernel_rfl) (by kernel_rfl) (by kernel_rfl) (fun _ _ _ h => h) (by rfl) ?_ ?_ ?_
    rotate_left 2
    · intro wt; go_simp; exact rfl
    · go_simp; exact rfl
    refine wpAny_take' (i := 21) (v := ?_) (a' := ?_) rfl (by kernel_rfl) (by kernel_rfl) (by kernel_rfl) (fun _ _ _ h => h) (by rfl) ?_ ?_ ?_
    rotate_left 2
    · intro wt; go_simp; exact rfl
    · go_simp; exact rfl
    refine wpAny_take' (i := 22) (v := ?_) (a' := ?_) rfl (by kernel_rfl) (by kernel_rfl) (by kernel_rfl) (fun _ _ _ h => h) (by rfl) ?_ ?_ ?_
    rotate_left 2
    · intro wt; go_simp; exact rfl
    · go_simp; exact rfl
    refine wpAny_one (i := 23) (by kernel_rfl) ?_
    refine wpOp_skip (a' := ?_) (w' := ?_) rfl (by rfl) ?_ ?_ ?_
    rotate_left 2
    · go_simp; exact rfl
    · go_simp; exact rfl
    refine wpAny_take' (i := 24) (v := ?_) (a' := ?_) rfl (by kernel_rfl) (by kernel_rfl) (by kernel_rfl) (fun _ _ _ h => h) (by rfl) ?_ ?_ ?_
    rotate_left 2
    · intro wt; go_simp; exact rfl
    · go_simp; exact rfl
    refine wpAny_one (i := 25) (by kernel_rfl) ?_
    refine wpOp_skip (a' := ?_) (w' := ?_) rfl (by rfl) ?_ ?_ ?_
    rotate_left 2
    · go_simp; exact rfl
    · go_simp; exact rfl
    refine wpAny_take' (i := 26) (v := ?_) (a' := ?_) rfl (by kernel_rfl) (by kernel_rfl) (by kernel_rfl) (fun _ _ _ h => h) (by rfl) ?_ ?_ ?_
    rotate_left 2
    · intro wt; go_simp; exact rfl
    · go_simp; exact rfl
    refine wpAny_one (i := 27) (by kernel_rfl) ?_
    refine wpOp_skip (a' := ?_) (w' := ?_) rfl (by rfl) ?_ ?_ ?_
    rotate_left 2
    · go_simp; exact rfl
    · go_simp; exact rfl
    refine wpAny_take' (i := 28) (v := ?_) (a' := ?_) rfl (by kernel_rfl) (by kernel_rfl) (by kernel_rfl) (fun _ _ _ h => h) (by rfl) ?_ ?_ ?_
    rotate_left 2
    · intro wt; go_simp; exact rfl
    · go_simp; exact rfl
    refine wpAny_one (i := 29) (by kernel_rfl) ?_
    refine wpOp_skip (a' := ?_) (w' := ?_) rfl (by rfl) ?_ ?_ ?_
    rotate_left 2
    · go_simp; exact rfl
    · go_simp; exact rfl
    refine wpAny_done (by kernel_rfl) ?_ _
    go_end0
    refine ⟨rfl, ?_, ((((((Fr.refl (fun k => k = g) w).setCell _ _ (fun _ => rfl)).setCell _ _ (fun _ => rfl)).setCell _ _ (fun _ => rfl)).setCell _ _ (fun _ => rfl)).drew)⟩
    rw [HT.out]
    exact set_ws (set_ws (set_ws (set_ws HH.out a _) b _) c _) d _
end Go.Proofs.Ytbdkicmdidcdcaa
namespace Go.Proofs.Ytbdkicmdidcdcaa
open Go.RowKit

theorem cturn_is (s : List UInt32) (g a b c d : Nat) (A B C D : Int) (hA : A = a) (hB : B = b) (hC : C = c) (hD : D = d) (w : World) (h : w.heap[g]? = some (.cells (ws s).toArray 131 (0, 0))) (hs : s.length = 16) (ha : a < 16) (hb : b < 16) (hc : c < 16) (hd : d < 16)
    (hab : ¬ a = b) (hac : ¬ a = c) (had : ¬ a = d) (hbc : ¬ b = c) (hbd : ¬ b = d) (hcd : ¬ c = d) :
    Calls Try.prog 93 #[.int .i64 A, .int .i64 B, .int .i64 C, .int .i64 D, .pointer (some ⟨g, 0, none⟩)] w fun e w' => e = .returned (.tuple #[]) ∧ w'.heap[g]? = some (.cells (ws (turn4 s a b c d)).toArray 131 (0, 0)) ∧ Fr (fun k => k = g) w w' := by
  subst hA hB hC hD; exact cturn_any s g a b c d w h hs ha hb hc hd hab hac had hbc hbd hcd

def cols (s : List UInt32) : Nat → List UInt32
  | 0 => s
  | i + 1 => turn4 (cols s i) i (4 + i) (8 + i) (12 + i)
def dias (s : List UInt32) : Nat → List UInt32
  | 0 => s
  | i + 1 => turn4 (dias s i) i (4 + (i + 1) % 4) (8 + (i + 2) % 4) (12 + (i + 3) % 4)
def crounds (s : List UInt32) : Nat → List UInt32
  | 0 => s
  | n + 1 => dias (cols (crounds s n) 4) 4
theorem cols_length (s : List UInt32) (h : s.length = 16) : ∀ i, (cols s i).length = 16
  | 0 => h
  | i + 1 => by rw [cols, turn4_length, cols_length s h i]
theorem dias_length (s : List UInt32) (h : s.length = 16) : ∀ i, (dias s i).length = 16
  | 0 => h
  | i + 1 => by rw [dias, turn4_length, dias_length s h i]
theorem crounds_length (s : List UInt32) (h : s.length = 16) : ∀ i, (crounds s i).length = 16
  | 0 => h
  | i + 1 => by rw [crounds, dias_length _ (cols_length _ (crounds_length s h i) 4)]
def w4le (x : UInt32) : List UInt8 := [x.toUInt8, (x >>> 8).toUInt8, (x >>> 16).toUInt8, (x >>> 24).toUInt8]
def outW (first s : List UInt32) : List UInt32 := (List.range 16).map fun i => s.getD i 0 + first.getD i 0
/-- A block. -/
def cblock (key : List UInt8) (ctr : UInt32) (nonce : List UInt8) : List UInt8 := (outW (chaSt key ctr nonce) (crounds (chaSt key ctr nonce) 10)).flatMap w4le
def outB (l : List UInt32) (i : Nat) : List UInt8 := (l.take i).flatMap w4le ++ List.replicate (64 - 4 * i) 0
theorem flat4_length (l : List UInt32) : (l.flatMap w4le).length = 4 * l.length := by
  induction l with
  | nil => rfl
  | cons x l ih => simp only [List.flatMap_cons, List.length_append, ih, List.length_cons]; simp [w4le]; omega
theorem outB_length (l : List UInt32) (i : Nat) (h : l.length = 16) (hi : i ≤ 16) : (outB l i).length = 64 := by
  unfold outB; rw [List.length_append, flat4_length, List.length_take, List.length_replicate]; omega
theorem outB_set (l : List UInt32) (i : Nat) (h : l.length = 16) (hi : i < 16) :
    ((((outB l i).set (4 * i) (l.getD i 0).toUInt8).set (4 * i + 1) (l.getD i 0 >>> 8).toUInt8).set (4 * i + 2) (l.getD i 0 >>> 16).toUInt8).set (4 * i + 3) (l.getD i 0 >>> 24).toUInt8 = outB l (i + 1) := by
  unfold outB
  have hl : ((l.take i).flatMap w4le).length = 4 * i := by rw [flat4_length, List.length_take]; omega
  rw [show 64 - 4 * i = (64 - 4 * (i + 1)) + 4 from by omega, List.take_succ_eq_append_getElem (by omega), List.flatMap_append]
  rw [show l.getD i 0 = l[i] from by rw [List.getD_eq_getElem?_getD, List.getElem?_eq_getElem (by omega)]; rfl]
  generalize (l.take i).flatMap w4le = p at *
  rw [show List.replicate (64 - 4 * (i + 1) + 4) (0 : UInt8) = 0 :: 0 :: 0 :: 0 :: List.replicate (64 - 4 * (i + 1)) 0 from rfl]
  rw [List.set_append_right _ _ (by omega), List.set_append_right _ _ (by omega), List.set_append_right _ _ (by omega), List.set_append_right _ _ (by omega), hl]
  simp [w4le, Nat.add_sub_cancel_left]
theorem cblock_length (key : List UInt8) (ctr : UInt32) (nonce : List UInt8) : (cblock key ctr nonce).length = 64 := by
  unfold cblock; rw [flat4_length]; simp [outW]

/-- The blocks of chacha.Block. -/
structure BI (w wr : World) (g g8 : Nat) (first s : List UInt32) : Prop where
  o : wr.heap[w.heap.size + 1 + 1]? = some (.cells (bs (List.replicate 64 0)).toArray 114 (0, 0))
  f : wr.heap[g]? = some (.cells (ws first).toArray 131 (0, 0))
  s : wr.heap[g8]? = some (.cells (ws s).toArray 131 (0, 0))
  no : No w wr
  ne : g ≠ g8
  pos : w.heap.size + 1 + 1 < g8
theorem BI.step {w wr w2 : World} {g g8 : Nat} {first s s' : List UInt32} (h : BI w wr g g8 first s) (hs : w2.heap[g8]? = some (.cells (ws s').toArray 131 (0, 0))) (hf : Fr (fun k => k = g8) wr w2) : BI w w2 g g8 first s' :=
  ⟨hf.heap h.o (by have := h.pos; omega), hf.heap h.f h.ne, hs, h.no.trans hf (fun j hj e => by have := h.pos; omega), h.ne, h.pos⟩

theorem BI.far {w wr w2 : World} {g g8 b : Nat} {first s : List UInt32} (h : BI w wr g g8 first s) (hf : Fr (fun k => k = b) wr w2) (hb : w.heap.size + 1 + 1 < b) (h1 : g ≠ b) (h2 : g8 ≠ b) : BI w w2 g g8 first s :=
  ⟨hf.heap h.o (by omega), hf.heap h.f h1, hf.heap h.s h2, h.no.trans hf (fun j hj e => by omega), h.ne, h.pos⟩
theorem cell_bs' {w : World} {g : Nat} {t : TypeId} {fz : Nat × Nat} {l : List UInt8} (h : w.heap[g]? = some (.cells (bs l).toArray t fz)) (j : Nat) (hj : j < l.length) : w.cell? ⟨g, j, none⟩ = some (.int .u8 (by8 (l.getD j 0))) := by
  rw [cell_of_row _ _ _ _ _ _ h, List.getElem?_toArray, bs_getD hj]
theorem set_bs {w : World} {g : Nat} {t : TypeId} {fz : Nat × Nat} {l : List UInt8} (h : w.heap[g]? = some (.cells (bs l).toArray t fz)) (j : Nat) (x : UInt8) : (w.setCell ⟨g, j, none⟩ (.int .u8 (by8 x))).heap[g]? = some (.cells (bs (l.set j x)).toArray t fz) := by
  rw [heap_setCell_row h, List.setIfInBounds_toArray]; simp [bs, List.map_set]
theorem outW_get (first s : List UInt32) (i : Nat) (h : i < 16) : (outW first s).getD i 0 = s.getD i 0 + first.getD i 0 := by simp [outW, List.getD_eq_getElem?_getD, h]

set_option maxRecDepth 100000 in
set_option maxHeartbeats 4000000 in
theorem cblock_any (key nonce : List UInt8) (ctr : UInt32) (w : World) (hk : key.length = 32) (hn : nonce.length = 12) :
    Calls Try.prog 76 #[.agg (bs key).toArray, .int .u32 (wd ctr), .agg (bs nonce).toArray] w fun e w' => e = .returned (.agg (bs (cblock key ctr nonce)).toArray) ∧ No w w' := by
  have HK := _root_.Go.Lib.hid hk
  have HN := _root_.Go.Lib.hid hn
  obtain ⟨ss, hss⟩ : ∃ ss, chaSt key ctr nonce = ss := ⟨_, rfl⟩
  have HSS := _root_.Go.Lib.hid hss
  have HL0 : Hid (ss.length = 16) := by show _ = _; rw [← hss, chaSt_length]
  have HC : Hid (cblock key ctr nonce = (outW ss (crounds ss 10)).flatMap w4le) := by show _ = _; rw [← hss]; rfl
  have HCL := _root_.Go.Lib.hid (cblock_length key ctr nonce)
  have HKZ : Hid ((bs key).toArray.size = 32) := by show _ = _; simp [bs_length, hk]
  have HNZ : Hid ((bs nonce).toArray.size = 12) := by show _ = _; simp [bs_length, hn]
  have HSZ : Hid ((ws ss).toArray.size = 16) := by show _ = _; simp [ws_length, HL0.out]
  obtain ⟨cb, hcb⟩ : ∃ cb, cblock key ctr nonce = cb := ⟨_, rfl⟩
  rw [hcb] at HC HCL ⊢
  have HCZ : Hid ((bs cb).toArray.size = 64) := by show _ = _; simp [bs_length, HCL.out]
  have A0 : Hid (∀ o : Obj, (((w.alloc (.cells (bs key).toArray 25)).alloc (.cells (bs nonce).toArray 84)).alloc o).heap[w.heap.size]? = some (.cells (bs key).toArray 25 (0, 0)) ∧
      (((w.alloc (.cells (bs key).toArray 25)).alloc (.cells (bs nonce).toArray 84)).alloc o).heap[w.heap.size + 1]? = some (.cells (bs nonce).toArray 84 (0, 0)) ∧
      (((w.alloc (.cells (bs key).toArray 25)).alloc (.cells (bs nonce).toArray 84)).alloc o).heap[w.heap.size + 1 + 1]? = some o) := fun o => by
    obtain ⟨h1, h2, h3, _, _⟩ := alloc4 w (.cells (bs key).toArray 25) (.cells (bs nonce).toArray 84) o o
    have e : (((w.alloc (.cells (bs key).toArray 25)).alloc (.cells (bs nonce).toArray 84)).alloc o).heap.size = w.heap.size + 1 + 1 + 1 := by simp
    rw [Below.heap_alloc _ _ _ (by omega)] at h1 h2 h3
    exact ⟨h1, h2, h3⟩
  clear hk hn hss hcb
  go_enter Try.func76, Try.ntmps76
  go_wp2_with (first
    | (refine wpList_load_row rfl 25 (.tmp 3) rfl _ rfl _ _ _ _ (A0.out _).1 Try.underlying25 rfl (by rw [HKZ.out]; kernel_rfl) ?_)
    | (refine wpList_load_row rfl 84 (.tmp 5) rfl _ rfl _ _ _ _ (A0.out _).2.1 Try.underlying84 rfl (by rw [HNZ.out]; kernel_rfl) ?_)
    | (go_at_call 92; refine (cbegin_any key nonce ctr _ HK.out HN.out).mono ?_; rw [HSS.out]; rintro e w1 ⟨rfl, hn⟩; have B1 : Hid (No w w1) := ((((Fr.refl _ _).alloc _).alloc _).alloc _).trans hn (fun _ _ a => a); have B2 : Hid (w1.heap[w.heap.size + 1 + 1]? = _) := hn.heap (A0.out _).2.2 id; clear hn)
    | (refine wpList_store_row' rfl 131 (.tmp 7) (.tmp 18) rfl _ _ rfl rfl _ _ (heap_alloc_new _ _) (by rw [HSZ.out]; kernel_rfl) (by rw [HSZ.out]; kernel_rfl) (by simpa using ws_one) ?_; intro w2 a1 a2 a3 a4; have C1 := _root_.Go.Lib.hid a1; have C2 : Hid (No w w2) := (B1.out.alloc _).trans a4 (fun j hj e => by have := B1.out.size; omega); have C3 : Hid (w2.heap[w.heap.size + 1 + 1]? = _) := (a2 _ (by have := lt_of_heap B2.out; omega)).trans ((Below.heap_alloc _ _ _ (lt_of_heap B2.out)).trans B2.out); have C4 : Hid (w2.heap.size = w1.heap.size + 1) := (by show _ = _; rw [a3]; simp); clear a1 a2 a3 a4)
    | (refine wpList_load_row rfl 131 (.tmp 7) rfl _ rfl _ _ _ _ C1.out Try.underlying131 rfl (by rw [HSZ.out]; kernel_rfl) ?_)
    | (refine wpList_store_row' rfl 131 (.tmp 8) (.tmp 19) rfl _ _ rfl rfl _ _ (heap_alloc_new _ _) (by rw [HSZ.out]; kernel_rfl) (by rw [HSZ.out]; kernel_rfl) (by simpa using ws_one) ?_; intro w3 a1 a2 a3 a4; rw [C4.out] at a1; have D1 := _root_.Go.Lib.hid a1; have D2 : Hid (No w w3) := (C2.out.alloc _).trans a4 (fun j hj e => by have := C2.out.size; omega); have D3 : Hid (w3.heap[w.heap.size + 1 + 1]? = _) := (a2 _ (by have := lt_of_heap C3.out; omega)).trans ((Below.heap_alloc _ _ _ (lt_of_heap C3.out)).trans C3.out); have D4 : Hid (w3.heap[w1.heap.size]? = _) := (a2 _ (by have := lt_of_heap C1.out; omega)).trans ((Below.heap_alloc _ _ _ (lt_of_heap C1.out)).trans C1.out); clear a1 a2 a3 a4))
  have E0 : Hid (BI w w3 w1.heap.size w2.heap.size ss ss) := ⟨D3.out, D4.out, by have := D1.out; rw [C4.out]; exact this, D2.out, by rw [C4.out]; omega, by rw [C4.out]; have := lt_of_heap B2.out; omega⟩
  clear A0 B1 B2 C1 C2 C3 D1 D2 D3 D4
  obtain ⟨g, hg⟩ : ∃ g, w1.heap.size = g := ⟨_, rfl⟩
  obtain ⟨g8, hg8⟩ : ∃ g8, w2.heap.size = g8 := ⟨_, rfl⟩
  rw [hg, hg8] at E0
  simp only [hg, hg8]
  clear hg hg8 C4
  go_loopw [21] (fun x wr => ∃ r : Nat, r ≤ 10 ∧ x = .int .i64 r ∧ BI w wr g g8 ss (crounds ss r)) (fun x _ => 10 - (intOf x).toNat)
  case atStart => exact ⟨0, by omega, rfl, E0.out⟩
  case round =>
    obtain ⟨r, hr, rfl, hB⟩ := hrel
    have F0 := _root_.Go.Lib.hid hB
    clear hB E0
    have HRL := _root_.Go.Lib.hid (crounds_length ss HL0.out r)
    by_cases hlt : r < 10
    · have hlt' : (r : Int) < 10 := by omega
      have HRS : Hid (crounds ss (r + 1) = dias (cols (crounds ss r) 4) 4) := rfl
      obtain ⟨s1, hs1⟩ : ∃ s1, crounds ss r = s1 := ⟨_, rfl⟩
      rw [hs1] at F0 HRL HRS
      clear hs1
      go_wp2_with fail
      go_loopw [23] (fun x wr => ∃ i : Nat, i ≤ 4 ∧ x = .int .i64 i ∧ BI w wr g g8 ss (cols s1 i)) (fun x _ => 4 - (intOf x).toNat)
      case atStart => exact ⟨0, by omega, rfl, F0.out⟩
      case round =>
        obtain ⟨i, hi, rfl, hB⟩ := hrel
        have F1 := _root_.Go.Lib.hid hB
        clear hB F0
        have HCO := _root_.Go.Lib.hid (cols_length s1 HRL.out i)
        by_cases hi4 : i < 4
        · have hi4' : (i : Int) < 4 := by omega
          go_wp2_with (go_at_call 93; refine (cturn_is (cols s1 i) g8 i (4 + i) (8 + i) (12 + i) _ _ _ _ (by omega) (by omega) (by omega) (by omega) _ F1.out.s HCO.out (by omega) (by omega) (by omega) (by omega) (by omega) (by omega) (by omega) (by omega) (by omega) (by omega)).mono ?_; rintro e w5 ⟨rfl, h5, f5⟩; have G1 := _root_.Go.Lib.hid (F1.out.step h5 f5); clear h5 f5)
          go_roundw
          case rel => exact ⟨i + 1, by omega, by go_num, G1.out⟩
          case measure => simp [intOf]; omega
        · obtain rfl : i = 4 := by omega
          rw [show ((4 : Nat) : Int) = 4 from rfl]
          have HCL4 := _root_.Go.Lib.hid (cols_length s1 HRL.out 4)
          obtain ⟨s2, hs2⟩ : ∃ s2, cols s1 4 = s2 := ⟨_, rfl⟩
          rw [hs2] at F1 HCL4 HRS
          clear hs2 HCO
          go_wp2_with fail
          go_loopw [36] (fun x wr => ∃ i : Nat, i ≤ 4 ∧ x = .int .i64 i ∧ BI w wr g g8 ss (dias s2 i)) (fun x _ => 4 - (intOf x).toNat)
          case atStart => exact ⟨0, by omega, rfl, F1.out⟩
          case round =>
            obtain ⟨i, hi, rfl, hB⟩ := hrel
            have F2 := _root_.Go.Lib.hid hB
            clear hB F1
            have HCO := _root_.Go.Lib.hid (dias_length s2 HCL4.out i)
            by_cases hi4 : i < 4
            · have hi4' : (i : Int) < 4 := by omega
              go_wp2_with (go_at_call 93; refine (cturn_is (dias s2 i) g8 i (4 + (i + 1) % 4) (8 + (i + 2) % 4) (12 + (i + 3) % 4) _ _ _ _ (by omega) (by omega) (by omega) (by omega) _ F2.out.s HCO.out (by omega) (by omega) (by omega) (by omega) (by omega) (by omega) (by omega) (by omega) (by omega) (by omega)).mono ?_; rintro e w5 ⟨rfl, h5, f5⟩; have G1 := _root_.Go.Lib.hid (F2.out.step h5 f5); clear h5 f5)
              go_roundw
              case rel => exact ⟨i + 1, by omega, by go_num, G1.out⟩
              case measure => simp [intOf]; omega
            · obtain rfl : i = 4 := by omega
              go_wp2_with fail
              go_roundw
              case rel => exact ⟨r + 1, by omega, by go_num, by rw [HRS.out]; exact F2.out⟩
              case measure => simp [intOf]; omega
    · obtain rfl : r = 10 := by omega
      rw [show ((10 : Nat) : Int) = 10 from rfl]
      obtain ⟨s1, hs1⟩ : ∃ s1, crounds ss 10 = s1 := ⟨_, rfl⟩
      rw [hs1] at F0 HRL HC
      clear hs1
      obtain ⟨wo, rfl⟩ : ∃ wo : World, wo = wr := ⟨_, rfl⟩
      go_wp2_with fail
      have hgo : g < wo.heap.size := lt_of_heap F0.out.f
      have hg8o : g8 < wo.heap.size := lt_of_heap F0.out.s
      have hwo : w.heap.size + 1 + 1 < wo.heap.size := lt_of_heap F0.out.o
      go_loopw [56] (fun x wr => ∃ i : Nat, i ≤ 16 ∧ x = .int .i64 i ∧ BI w wr g g8 ss s1 ∧ wr.heap[wo.heap.size]? = some (.cells (bs (outB (outW ss s1) i)).toArray 114 (0, 0))) (fun x _ => 16 - (intOf x).toNat)
      case atStart =>
        exact ⟨0, by omega, rfl, ⟨(Fr.alloc (Fr.refl (fun _ => False) _) _).heap F0.out.o id, (Fr.alloc (Fr.refl (fun _ => False) _) _).heap F0.out.f id, (Fr.alloc (Fr.refl (fun _ => False) _) _).heap F0.out.s id, F0.out.no.alloc _, F0.out.ne, F0.out.pos⟩, heap_alloc_new wo _⟩
      case round =>
        obtain ⟨i, hi, rfl, hB, hO⟩ := hrel
        have F1 := _root_.Go.Lib.hid hB
        have F2 := _root_.Go.Lib.hid hO
        have HWL : Hid ((outW ss s1).length = 16) := by show _ = _; simp [outW]
        clear hB hO
        by_cases hi16 : i < 16
        · have hi16' : (i : Int) < 16 := by omega
          have hi0 : (0 : Int) ≤ i := by omega
          have c1 := cell_ws F1.out.s i (by rw [HRL.out]; exact hi16)
          have c2 := cell_ws F1.out.f i (by rw [HL0.out]; exact hi16)
          have HE := _root_.Go.Lib.hid (outW_get ss s1 i hi16)
          have HS4 := _root_.Go.Lib.hid (outB_set (outW ss s1) i HWL.out hi16)
          have hlo := outB_length (outW ss s1) i HWL.out (by omega)
          have d0 := cell_bs' F2.out (4 * i) (by rw [hlo]; omega)
          have d1 := cell_bs' F2.out (4 * i + 1) (by rw [hlo]; omega)
          have d2 := cell_bs' F2.out (4 * i + 2) (by rw [hlo]; omega)
          have d3 := cell_bs' F2.out (4 * i + 3) (by rw [hlo]; omega)
          have f0 := frozen_row F2.out (4 * i)
          have f1 := frozen_row F2.out (4 * i + 1)
          have f2 := frozen_row F2.out (4 * i + 2)
          have f3 := frozen_row F2.out (4 * i + 3)
          rw [HE.out] at HS4
          generalize s1.getD i 0 = x1 at *
          generalize ss.getD i 0 = x2 at *
          generalize (outB (outW ss s1) i).getD (4 * i) 0 = y0 at *
          generalize (outB (outW ss s1) i).getD (4 * i + 1) 0 = y1 at *
          generalize (outB (outW ss s1) i).getD (4 * i + 2) 0 = y2 at *
          generalize (outB (outW ss s1) i).getD (4 * i + 3) 0 = y3 at *
          clear hlo
          go_wp2_with fail
          refine wp_region_still_drew (by kernel_rfl) (by kernel_rfl) ?_
          repeat still_step
          refine wpStill_nil ?_
          go_wp2
          go_roundw
          case rel =>
            refine ⟨i + 1, by omega, by go_num, ?_, ?_⟩
            · exact F1.out.far (((((Fr.refl (fun k => k = wo.heap.size) wr).setCell _ _ (fun _ => rfl)).setCell _ _ (fun _ => rfl)).setCell _ _ (fun _ => rfl)).setCell _ _ (fun _ => rfl)).drew hwo (by omega) (by omega)
            · rw [← HS4.out, UInt32.toUInt8_add]
              exact set_bs (set_bs (set_bs (set_bs F2.out _ _) _ _) _ _) _ _
          case measure => simp [intOf]; omega
        · obtain rfl : i = 16 := by omega
          have HZ : Hid (outB (outW ss s1) 16 = cb) := by
            show _ = _; rw [HC.out]; unfold outB; rw [List.take_of_length_le (by rw [HWL.out]; omega)]; simp
          rw [HZ.out] at F2
          go_wp2_with (first
            | (refine wpList_load_row rfl 114 (.tmp 12) rfl _ rfl _ _ _ _ F2.out Try.underlying114 rfl (by rw [HCZ.out]; kernel_rfl) ?_)
            | (refine wpList_store_row' rfl 114 (.tmp 6) (.tmp 93) rfl _ _ rfl rfl _ _ F1.out.o (by rw [HCZ.out]; kernel_rfl) (by rw [HCZ.out]; simp [bs_length]) (by simpa using bs_one) ?_; intro w8 a1 a2 a3 a4; have K1 := _root_.Go.Lib.hid a1; have K4 := _root_.Go.Lib.hid a4; clear a1 a2 a3 a4))
          refine bodyPost_cell rfl _ _ _ _ _ rfl K1.out Try.underlying114 rfl (by rw [HCZ.out]; kernel_rfl) rfl ⟨rfl, F1.out.no.trans K4.out (fun q hq e => by omega)⟩
end Go.Proofs.Ytbdkicmdidcdcaa
namespace Go.Proofs.Ytbdkicmdidcdcaa
open Go.RowKit

theorem run_make_u8 (w : World) (n : Nat) (hn : n ≤ 16777216) : (Instr.makeSlice 22 (.int .i64 n) (.int .i64 n)).run Try.prog w = .ok (.slice (some ⟨w.heap.size, 0, none⟩) n n) (w.alloc (.cells (bs (List.replicate n 0)).toArray 5)) := by
  obtain ⟨i, hi, hz, hs, hb⟩ := info_parts Try.info5
  have := run_makeSlice (P := Try.prog) w 22 5 i _ Try.underlying22 hi hz .i64 .i64 n n (by omega) (by omega) (by rw [hs]; simp; omega) (by rw [hb]; omega) (by omega)
  rw [hs] at this
  simp only [Int.toNat_natCast, Nat.mul_one] at this
  have hc : madeCells (Value.int .u8 0).cells n = (bs (List.replicate n 0)).toArray := by
    apply Array.toList_inj.1
    rw [show (Value.int .u8 0).cells = #[.int .u8 0] from rfl, toList_madeCells_one]
    simp [bs, by8]
  rw [hc] at this
  exact this

/-- The byte that is laid over the one at a place. -/
def kby (key : List UInt8) (ctr : UInt32) (nonce : List UInt8) (i : Nat) : UInt8 := (cblock key (ctr + UInt32.ofNat (i / 64)) nonce).getD (i % 64) 0
def xorC (key : List UInt8) (ctr : UInt32) (nonce : List UInt8) (b : List UInt8) : List UInt8 := (List.range b.length).map fun i => b.getD i 0 ^^^ kby key ctr nonce i
theorem xorC_length (key : List UInt8) (ctr : UInt32) (nonce : List UInt8) (b : List UInt8) : (xorC key ctr nonce b).length = b.length := by simp [xorC]
theorem xorC_twice (key : List UInt8) (ctr : UInt32) (nonce : List UInt8) (b : List UInt8) : xorC key ctr nonce (xorC key ctr nonce b) = b := by
  apply List.ext_getElem (by simp [xorC_length])
  intro i h1 h2
  simp only [xorC, List.getElem_map, List.getElem_range]
  have hi : i < b.length := h2
  rw [show (List.map (fun i => b.getD i 0 ^^^ kby key ctr nonce i) (List.range b.length)).getD i 0 = b.getD i 0 ^^^ kby key ctr nonce i from by simp [List.getD_eq_getElem?_getD, hi]]
  rw [UInt8.xor_assoc, UInt8.xor_self, UInt8.xor_zero, List.getD_eq_getElem?_getD, List.getElem?_eq_getElem hi]; rfl
/-- The first i bytes. -/
def xorN (key : List UInt8) (ctr : UInt32) (nonce : List UInt8) (b : List UInt8) (i : Nat) : List UInt8 := (xorC key ctr nonce b).take i ++ List.replicate (b.length - i) 0
theorem xorN_length (key : List UInt8) (ctr : UInt32) (nonce : List UInt8) (b : List UInt8) (i : Nat) (h : i ≤ b.length) : (xorN key ctr nonce b i).length = b.length := by simp [xorN, xorC_length]; omega
theorem xorN_set (key : List UInt8) (ctr : UInt32) (nonce : List UInt8) (b : List UInt8) (i : Nat) (h : i < b.length) : (xorN key ctr nonce b i).set i (b.getD i 0 ^^^ kby key ctr nonce i) = xorN key ctr nonce b (i + 1) := by
  have hi : i < (xorC key ctr nonce b).length := by rw [xorC_length]; exact h
  have he : (xorC key ctr nonce b)[i] = b.getD i 0 ^^^ kby key ctr nonce i := by simp [xorC]
  unfold xorN
  rw [show b.length - i = (b.length - (i + 1)) + 1 from by omega, List.replicate_succ, set_mid _ _ _ _ _ (by rw [List.length_take]; omega), List.take_succ_eq_append_getElem hi, he]
  simp
theorem xorN_all (key : List UInt8) (ctr : UInt32) (nonce : List UInt8) (b : List UInt8) : xorN key ctr nonce b b.length = xorC key ctr nonce b := by
  unfold xorN; rw [List.take_of_length_le (by rw [xorC_length]; exact Nat.le_refl _)]; simp
theorem ctr_succ (c : UInt32) (j : Nat) : c + UInt32.ofNat j + 1 = c + UInt32.ofNat (j + 1) := by
  rw [UInt32.add_assoc]; congr 1
  exact (UInt32.ofNat_add j 1).symm

/-- The blocks of chacha.Xor. -/
structure XI (w wr : World) (key nonce o : List UInt8) : Prop where
  k : wr.heap[w.heap.size]? = some (.cells (bs key).toArray 25 (0, 0))
  n : wr.heap[w.heap.size + 1]? = some (.cells (bs nonce).toArray 84 (0, 0))
  o : wr.heap[w.heap.size + 1 + 1]? = some (.cells (bs o).toArray 5 (0, 0))
  no : No w wr
theorem XI.keep {w wr w2 : World} {key nonce o : List UInt8} (h : XI w wr key nonce o) (hf : No wr w2) : XI w w2 key nonce o := ⟨hf.heap h.k id, hf.heap h.n id, hf.heap h.o id, h.no.trans hf (fun _ _ a => a)⟩
theorem XI.set {w wr : World} {key nonce o : List UInt8} (h : XI w wr key nonce o) (j : Nat) (x : UInt8) : XI w (wr.setCell ⟨w.heap.size + 1 + 1, j, none⟩ (.int .u8 (by8 x))) key nonce (o.set j x) :=
  ⟨heap_setCell_ne h.k _ (by simp only; omega), heap_setCell_ne h.n _ (by simp only; omega), set_bs h.o j x, h.no.setCell _ _ (fun e => by simp only at e; omega)⟩

set_option maxRecDepth 100000 in
set_option maxHeartbeats 4000000 in
theorem cxor_any (key nonce : List UInt8) (ctr : UInt32) (v : Value) (b : List UInt8) (w : World) (hk : key.length = 32) (hn : nonce.length = 12) (hv : RB w v b) (hb : b.length ≤ 1000000) :
    Calls Try.prog 66 #[.agg (bs key).toArray, .int .u32 (wd ctr), .agg (bs nonce).toArray, v] w fun e w' => ∃ G, e = .returned (.slice (some ⟨G, 0, none⟩) b.length b.length) ∧ w'.heap[G]? = some (.cells (bs (xorC key ctr nonce b)).toArray 5 (0, 0)) ∧ No w w' ∧ w.heap.size ≤ G := by
  have HK := _root_.Go.Lib.hid hk
  have HN := _root_.Go.Lib.hid hn
  have HV := _root_.Go.Lib.hid hv
  obtain ⟨va, vc, hva⟩ := hv.form
  subst hva
  have hsh := hv.shape
  obtain ⟨n, hnn⟩ : ∃ n, b.length = n := ⟨_, rfl⟩
  have HBL := _root_.Go.Lib.hid hnn
  have HSH := _root_.Go.Lib.hid hsh
  rw [hnn] at HV HSH hb ⊢
  have hb' : (n : Int) ≤ 1000000 := by omega
  have HKZ : Hid ((bs key).toArray.size = 32) := by show _ = _; simp [bs_length, hk]
  have HNZ : Hid ((bs nonce).toArray.size = 12) := by show _ = _; simp [bs_length, hn]
  have hmk := fun w : World => run_make_u8 w n (by omega)
  clear hk hn hv hsh hnn
  go_enter Try.func66, Try.ntmps66
  go_wp2_with fail
  clear hmk
  go_loopw [1, 10] (fun c x wr => ∃ j : Nat, 64 * j ≤ n + 63 ∧ x = .int .i64 ((64 * j : Nat) : Int) ∧ c = .int .u32 (wd (ctr + UInt32.ofNat j)) ∧ XI w wr key nonce (xorN key ctr nonce b (min (64 * j) n))) (fun _ x _ => n + 63 - (intOf x).toNat)
  case atStart =>
    obtain ⟨h1, h2, h3, _, _⟩ := alloc4 w (.cells (bs key).toArray 25) (.cells (bs nonce).toArray 84) (.cells (bs (List.replicate n 0)).toArray 5) (.cells #[] 5)
    have e : (((w.alloc (.cells (bs key).toArray 25)).alloc (.cells (bs nonce).toArray 84)).alloc (.cells (bs (List.replicate n 0)).toArray 5)).heap.size = w.heap.size + 1 + 1 + 1 := by simp
    rw [Below.heap_alloc _ _ _ (by omega)] at h1 h2 h3
    refine ⟨0, by omega, by simp, by simp, h1, h2, ?_, ((Fr.refl _ _).alloc _ |>.alloc _).alloc _⟩
    rw [show min (64 * 0) n = 0 from by omega]
    unfold xorN
    rw [HBL.out]; simpa using h3
  case round =>
    obtain ⟨j, hj, rfl, rfl, hX⟩ := hrel
    have F0 := _root_.Go.Lib.hid hX
    clear hX
    have hj63 : ((64 * j : Nat) : Int) ≤ 1000063 := by omega
    by_cases hjn : 64 * j < n
    · have hjn' : ((64 * j : Nat) : Int) < n := by omega
      have HMN : Hid (min (64 * j) n = 64 * j) := by show _ = _; omega
      rw [HMN.out] at F0
      rcases HSH.out with ⟨_, h⟩ | ⟨gv, ov, cv, hq, hnc, hcm, hgw, hcell⟩
      · have := HBL.out; rw [h] at this; simp at this; omega
      simp only [Value.slice.injEq] at hq
      obtain ⟨rfl, _, rfl⟩ := hq
      have HCE := _root_.Go.Lib.hid hcell
      have HCS := _root_.Go.Lib.hid (ctr_succ ctr j)
      obtain ⟨c0, hc0⟩ : ∃ c0, ctr + UInt32.ofNat j = c0 := ⟨_, rfl⟩
      obtain ⟨c1, hc1⟩ : ∃ c1, ctr + UInt32.ofNat (j + 1) = c1 := ⟨_, rfl⟩
      have HC0 := _root_.Go.Lib.hid hc0
      have HC1 := _root_.Go.Lib.hid hc1
      rw [hc0, hc1] at HCS
      rw [hc0]
      clear hc0 hc1
      obtain ⟨kb, hkb⟩ : ∃ kb, cblock key c0 nonce = kb := ⟨_, rfl⟩
      have HKB := _root_.Go.Lib.hid hkb
      have HKL : Hid (kb.length = 64) := by show _ = _; rw [← hkb, cblock_length]
      have HKBZ : Hid ((bs kb).toArray.size = 64) := by show _ = _; simp [bs_length, HKL.out]
      clear hcell hkb
      unfold maxLen at hcm
      obtain ⟨aj, haj⟩ : ∃ aj, 64 * j = aj := ⟨_, rfl⟩
      have HAJ := _root_.Go.Lib.hid haj
      rw [haj] at F0 hjn hjn' hj63 ⊢
      clear haj
      go_wp2_with (first
        | (refine wpList_load_row rfl 25 (.tmp 4) rfl _ rfl _ _ _ _ F0.out.k Try.underlying25 rfl (by rw [HKZ.out]; kernel_rfl) ?_)
        | (refine wpList_load_row rfl 84 (.tmp 6) rfl _ rfl _ _ _ _ F0.out.n Try.underlying84 rfl (by rw [HNZ.out]; kernel_rfl) ?_)
        | (go_at_call 76; refine (cblock_any key nonce _ _ HK.out HN.out).mono ?_; rw [HKB.out]; rintro e w1 ⟨rfl, hn⟩; have B1 := _root_.Go.Lib.hid hn; clear hn)
        | (refine wpList_store_row' rfl 114 (.tmp 11) (.tmp 25) rfl _ _ rfl rfl _ _ (heap_alloc_new _ _) (by rw [HKBZ.out]; kernel_rfl) (by rw [HKBZ.out]; kernel_rfl) (by simpa using bs_one) ?_; intro w2 a1 a2 a3 a4; have C1 := _root_.Go.Lib.hid a1; have C2 : Hid (No wr w2) := (B1.out.alloc _).trans a4 (fun q hq e => by have := B1.out.size; omega); have C3 := _root_.Go.Lib.hid (F0.out.keep C2.out); clear a1 a2 a3 a4))
      have HCW : Hid ((wd c0 + 1) % (4294967296 : Int) = wd c1) := by
        show _ = _; rw [← HCS.out, ← u32_add]; rfl
      rw [HCW.out]
      have hw1G : w.heap.size + 1 + 1 < w1.heap.size := Nat.lt_of_lt_of_le (lt_of_heap F0.out.o) B1.out.size
      go_loopw [12] (fun x wr => ∃ i : Nat, aj ≤ i ∧ i ≤ aj + 64 ∧ i ≤ n ∧ x = .int .i64 i ∧ XI w wr key nonce (xorN key ctr nonce b i) ∧ wr.heap[w1.heap.size]? = some (.cells (bs kb).toArray 114 (0, 0))) (fun x _ => n - (intOf x).toNat)
      case atStart => exact ⟨aj, by omega, by omega, by omega, rfl, C3.out, C1.out⟩
      case round =>
        obtain ⟨i, hi1, hi2, hi3, rfl, hX, hKb⟩ := hrel
        have F1 := _root_.Go.Lib.hid hX
        have F2 := _root_.Go.Lib.hid hKb
        clear hX hKb
        by_cases hin : i < n ∧ i < aj + 64
        · obtain ⟨hin1, hin2⟩ := hin
          have hin1' : (i : Int) < n := by omega
          have hin2' : (i : Int) < aj + 64 := by omega
          have c1 : ∀ w', No wr w' → w'.cell? ⟨gv, ov + i, none⟩ = some (.int .u8 (by8 (b.getD i 0))) := fun w' hw => ((F1.out.no.trans hw (fun _ _ a => a)).cell (p := ⟨gv, ov + i, none⟩) hgw id).trans (HCE.out i hin1)
          have c1 := c1 wr (Fr.refl _ _)
          have c2 := cell_bs' F2.out (i - aj) (by rw [HKL.out]; omega)
          have hlo := xorN_length key ctr nonce b i (by rw [HBL.out]; omega)
          have c3 := cell_bs' F1.out.o i (by rw [hlo, HBL.out]; exact hin1)
          have f3 := frozen_row F1.out.o i
          have HE : Hid ((xorN key ctr nonce b i).set i (b.getD i 0 ^^^ kb.getD (i - aj) 0) = xorN key ctr nonce b (i + 1)) := by
            show _ = _
            rw [← xorN_set key ctr nonce b i (by rw [HBL.out]; exact hin1)]
            have h1 := HAJ.out
            rw [show kby key ctr nonce i = kb.getD (i - aj) 0 from by unfold kby; rw [show i / 64 = j from by omega, HC0.out, HKB.out, show i % 64 = i - aj from by omega]]
          clear hlo
          generalize b.getD i 0 = xb at *
          generalize kb.getD (i - aj) 0 = xk at *
          generalize (xorN key ctr nonce b i).getD i 0 = xo at *
          have hi0 : (0 : Int) ≤ i := by omega
          by_cases hmn : (aj : Int) + 64 ≤ n
          all_goals
           go_wp2_with fail
           have e1 : IntKind.i64.wrap ((i : Int) - aj) = i - aj := IntWalk.i64_in _ (by omega)
           have e2 : (0 : Int) ≤ (i : Int) - aj := by omega
           have e3 : (i : Int) - aj < 64 := by omega
           have e4 : ((i : Int) - aj).toNat = i - aj := by omega
           have e5 : (aj : Int) ≤ i := by omega
           refine wp_region_tail 13 (by kernel_rfl) (by kernel_rfl) ?_
           simp only [List.take_succ_cons, List.take_zero, List.drop_succ_cons, List.drop_zero]
           repeat still_step
           refine wpStill_nil ?_
           clear e1 e2 e3 e4 e5
           go_wp2
           go_roundw
           case rel =>
             refine ⟨i + 1, by omega, by omega, by omega, by go_num, ?_, ?_⟩
             · rw [← HE.out]
               exact (F1.out.set i _).keep (Fr.refl _ _).drew
             · exact heap_setCell_ne F2.out _ (by simp only; omega)
           case measure => simp [intOf]; omega
        · have hie : min (64 * (j + 1)) n = i := by have := HAJ.out; omega
          have HIE := _root_.Go.Lib.hid hie
          have haj2 : (aj : Int) + 64 = ((64 * (j + 1) : Nat) : Int) := by have := HAJ.out; omega
          have HA2 := _root_.Go.Lib.hid haj2
          clear hie haj2
          by_cases hmn : (aj : Int) + 64 ≤ n
          all_goals
            have hni : ¬ ((i : Int) < n ∧ (i : Int) < aj + 64) := by omega
            first
              | (have hx : ¬ (i : Int) < (aj : Int) + 64 := by omega)
              | (have hx : ¬ (i : Int) < (n : Int) := by omega)
            clear hni hin
            go_wp2_with fail
            go_roundw
            case rel => exact ⟨j + 1, by have := HAJ.out; omega, by rw [HA2.out], by rw [HC1.out], by rw [HIE.out]; exact F1.out⟩
            case measure => simp [intOf]; have := HAJ.out; omega
    · obtain hge : n ≤ 64 * j := by omega
      have hge' : (n : Int) ≤ ((64 * j : Nat) : Int) := by omega
      have HMN : Hid (min (64 * j) n = n) := by show _ = _; omega
      rw [HMN.out] at F0
      have HXA : Hid (xorN key ctr nonce b n = xorC key ctr nonce b) := by show _ = _; rw [← HBL.out]; exact xorN_all key ctr nonce b
      rw [HXA.out] at F0
      obtain ⟨aj, haj⟩ : ∃ aj, 64 * j = aj := ⟨_, rfl⟩
      rw [haj] at hge' hj63 hge hjn ⊢
      clear haj HMN
      go_wp2_with fail
      go_ret
      exact ⟨_, rfl, F0.out.o, F0.out.no, by omega⟩
end Go.Proofs.Ytbdkicmdidcdcaa
