/-
  math/bits: Add64, Mul64. Numbers of three words: add, low, less. Numbers of three words: low, less. Numbers of three words: less. Numbers of three words: read. Numbers of three words: what times is. Numbers of three words: the walk of times. What poly.Tag is.
-/
import Derived.Test.YtbdkicmdidcdcaaZE
import Derived.Laws.Externs
import Derived.Lib.Mul64
import Derived.Deep.RegionHeld3
namespace Go.Proofs.Ytbdkicmdidcdcaa
open Go.RowKit

abbrev M64 : Nat := 18446744073709551616
theorem add64_run (x y c : Nat) (hc : c ≤ 1) (w : World) :
    (callFunc 102 #[.int .u64 x, .int .u64 y, .int .u64 c]).run Try.prog w =
      .ok (.value (.tuple #[.int .u64 (((x + y + c) % 18446744073709551616 : Nat) : Int), .int .u64 (((x + y + c) / 18446744073709551616 : Nat) : Int)])) w := by
  rw [run_callFunc_extern Try.func102 (by kernel_rfl) (by kernel_rfl) (by kernel_rfl) (e := add64Entry) (by kernel_rfl), run_add64 x y c (by omega) (by omega) (by omega) (by omega)]
  simp only [Result.andThen]
  congr 5 <;> omega

theorem u64_mask (a : Nat) (ha : a < 18446744073709551616) : bits .and .u64 (a : Int) 4294967295 = ((a % 4294967296 : Nat) : Int) := by
  rw [show (4294967295 : Int) = ((4294967295 : Nat) : Int) from rfl, u64_and_nat _ _ (by omega) (by omega), show (4294967295 : Nat) = 2 ^ 32 - 1 from rfl, Nat.and_two_pow_sub_one_eq_mod]
theorem nat_div32 (a : Nat) : (a : Int) / 4294967296 = ((a / 4294967296 : Nat) : Int) := by omega
theorem nat_mul' (a b : Nat) : (a : Int) * (b : Int) = ((a * b : Nat) : Int) := (Int.natCast_mul a b).symm
theorem nat_add' (a b : Nat) : (a : Int) + (b : Int) = ((a + b : Nat) : Int) := (Int.natCast_add a b).symm
theorem u64_small (a : Nat) (ha : a < 18446744073709551616) : IntKind.u64.wrap (a : Int) = (a : Int) := by rw [IntKind.wrap_u64]; omega
theorem u64_mod (a : Nat) : IntKind.u64.wrap (a : Int) = ((a % 18446744073709551616 : Nat) : Int) := by rw [IntKind.wrap_u64]; omega

set_option maxRecDepth 100000 in
set_option maxHeartbeats 1000000 in
theorem Mul64_any (x y : Nat) (hx : x < 18446744073709551616) (hy : y < 18446744073709551616) (w : World) :
    Calls Try.prog 103 #[.int .u64 x, .int .u64 y] w fun e w' => e = .returned (.tuple #[.int .u64 ((x * y / 18446744073709551616 : Nat) : Int), .int .u64 ((x * y % 18446744073709551616 : Nat) : Int)]) ∧ w' = w := by
  obtain ⟨b1, b2, b3, hhi⟩ := _root_.Go.Lib.mul64_hi x y hx hy
  have ba := _root_.Go.Lib.half_mul_le (a := x / 4294967296) (b := y / 4294967296) (by omega) (by omega)
  have bb := _root_.Go.Lib.half_mul_le (a := x / 4294967296) (b := y % 4294967296) (by omega) (by omega)
  have bc := _root_.Go.Lib.half_mul_le (a := x % 4294967296) (b := y / 4294967296) (by omega) (by omega)
  have ba' : x / 4294967296 * (y / 4294967296) < 18446744073709551616 := by omega
  have bb' : x / 4294967296 * (y % 4294967296) < 18446744073709551616 := by omega
  have bc' : x % 4294967296 * (y / 4294967296) < 18446744073709551616 := by omega
  have b4 : x / 4294967296 * (y / 4294967296) + (x / 4294967296 * (y % 4294967296) + x % 4294967296 * (y % 4294967296) / 4294967296) / 4294967296 < 18446744073709551616 := by omega
  have b5 : x / 4294967296 * (y / 4294967296) + (x / 4294967296 * (y % 4294967296) + x % 4294967296 * (y % 4294967296) / 4294967296) / 4294967296 + ((x / 4294967296 * (y % 4294967296) + x % 4294967296 * (y % 4294967296) / 4294967296) % 4294967296 + x % 4294967296 * (y / 4294967296)) / 4294967296 < 18446744073709551616 := by omega
  go_enter Try.func103, Try.ntmps103
  go_wp2
  simp only [u64_mask x hx, u64_mask y hy, nat_div32, nat_mul', nat_add', u64_small _ b1, u64_small _ bb', u64_small _ b2, u64_mask _ b2, u64_small _ bc', u64_small _ b3, u64_small _ ba', u64_small _ b4, u64_small _ b5, u64_mod (x * y)]
  rw [hhi]
  go_ret2
  exact ⟨rfl, rfl⟩
end Go.Proofs.Ytbdkicmdidcdcaa
namespace Go.Proofs.Ytbdkicmdidcdcaa
open Go.RowKit

/-- A number of three words, the lowest first. -/
structure N3 where
  a : Nat
  b : Nat
  c : Nat
def N3.cs (n : N3) : Array Value := #[.int .u64 (n.a : Int), .int .u64 (n.b : Int), .int .u64 (n.c : Int)]
structure N3.Ok (n : N3) : Prop where
  a : n.a < 18446744073709551616
  b : n.b < 18446744073709551616
  c : n.c < 18446744073709551616
def N3.add (n m : N3) : N3 :=
  ⟨(n.a + m.a + 0) % 18446744073709551616, (n.b + m.b + (n.a + m.a + 0) / 18446744073709551616) % 18446744073709551616,
   (n.c + m.c + (n.b + m.b + (n.a + m.a + 0) / 18446744073709551616) / 18446744073709551616) % 18446744073709551616⟩
theorem N3.add_ok (n m : N3) : (n.add m).Ok := ⟨Nat.mod_lt _ (by omega), Nat.mod_lt _ (by omega), Nat.mod_lt _ (by omega)⟩

theorem alloc3 (w : World) (a b c : Obj) : (((w.alloc a).alloc b).alloc c).heap[w.heap.size + 1 + 1]? = some c ∧ No w (((w.alloc a).alloc b).alloc c) :=
  by
  have h3 := heap_alloc_new ((w.alloc a).alloc b) c
  have e : ∀ (w : World) (o : Obj), (w.alloc o).heap.size = w.heap.size + 1 := fun w o => by simp
  rw [e, e] at h3
  exact ⟨h3, (((Fr.refl _ _).alloc _).alloc _).alloc _⟩
set_option maxRecDepth 100000 in
set_option maxHeartbeats 1000000 in
theorem padd_e (n m : N3) (w : World) (hn : n.Ok) (hm : m.Ok) :
    Calls Try.prog 95 #[.agg n.cs, .agg m.cs] w fun e w' => e = .returned (.agg (n.add m).cs) ∧ w' = ((w.alloc (.cells (n.add m).cs 135)).alloc (.cells m.cs 135)).alloc (.cells (n.add m).cs 135) := by
  obtain ⟨n0, n1, n2⟩ := n
  obtain ⟨m0, m1, m2⟩ := m
  obtain ⟨h1, h2, h3⟩ := hn
  obtain ⟨k1, k2, k3⟩ := hm
  simp only at h1 h2 h3 k1 k2 k3
  obtain ⟨q0, hq0⟩ : ∃ q0, (n0 + m0 + 0) / 18446744073709551616 = q0 := ⟨_, rfl⟩
  obtain ⟨q1, hq1⟩ : ∃ q1, (n1 + m1 + q0) / 18446744073709551616 = q1 := ⟨_, rfl⟩
  obtain ⟨q2, hq2⟩ : ∃ q2, (n2 + m2 + q1) / 18446744073709551616 = q2 := ⟨_, rfl⟩
  obtain ⟨r0, hr0⟩ : ∃ r0, (n0 + m0 + 0) % 18446744073709551616 = r0 := ⟨_, rfl⟩
  obtain ⟨r1, hr1⟩ : ∃ r1, (n1 + m1 + q0) % 18446744073709551616 = r1 := ⟨_, rfl⟩
  obtain ⟨r2, hr2⟩ : ∃ r2, (n2 + m2 + q1) % 18446744073709551616 = r2 := ⟨_, rfl⟩
  have A1 : ∀ w, (callFunc 102 #[.int .u64 (n0 : Int), .int .u64 (m0 : Int), .int .u64 0]).run Try.prog w = .ok (.value (.tuple #[.int .u64 (r0 : Int), .int .u64 (q0 : Int)])) w := fun w => by rw [← hq0, ← hr0]; exact add64_run n0 m0 0 (by omega) w
  have A2 : ∀ w, (callFunc 102 #[.int .u64 (n1 : Int), .int .u64 (m1 : Int), .int .u64 (q0 : Int)]).run Try.prog w = .ok (.value (.tuple #[.int .u64 (r1 : Int), .int .u64 (q1 : Int)])) w := fun w => by rw [← hq1, ← hr1]; exact add64_run n1 m1 q0 (by omega) w
  have A3 : ∀ w, (callFunc 102 #[.int .u64 (n2 : Int), .int .u64 (m2 : Int), .int .u64 (q1 : Int)]).run Try.prog w = .ok (.value (.tuple #[.int .u64 (r2 : Int), .int .u64 (q2 : Int)])) w := fun w => by rw [← hq2, ← hr2]; exact add64_run n2 m2 q1 (by omega) w
  have HE : Hid ((N3.add ⟨n0, n1, n2⟩ ⟨m0, m1, m2⟩).cs = #[.int .u64 (r0 : Int), .int .u64 (r1 : Int), .int .u64 (r2 : Int)]) := by
    show _ = _
    simp only [N3.add, N3.cs, hq0, hq1, hr0, hr1, hr2]
  rw [HE.out]
  clear hq0 hq1 hq2 hr0 hr1 hr2 h1 h2 h3 k1 k2 k3
  show Calls _ _ #[.agg #[.int .u64 (n0 : Int), .int .u64 (n1 : Int), .int .u64 (n2 : Int)], .agg #[.int .u64 (m0 : Int), .int .u64 (m1 : Int), .int .u64 (m2 : Int)]] _ _
  go_enter Try.func95, Try.ntmps95
  go_wp2_with fail
  refine bodyPost_cell rfl (w.heap.size + 1 + 1) 135 _ (0, 0) _ rfl (alloc3 w _ _ _).1 Try.underlying135 rfl (by kernel_rfl) rfl ⟨rfl, rfl⟩
theorem padd_any (n m : N3) (w : World) (hn : n.Ok) (hm : m.Ok) :
    Calls Try.prog 95 #[.agg n.cs, .agg m.cs] w fun e w' => e = .returned (.agg (n.add m).cs) ∧ No w w' :=
  (padd_e n m w hn hm).mono fun _ _ ⟨h, hw⟩ => ⟨h, by rw [hw]; exact (alloc3 w _ _ _).2⟩
end Go.Proofs.Ytbdkicmdidcdcaa
namespace Go.Proofs.Ytbdkicmdidcdcaa
open Go.RowKit

def N3.lo (n : N3) : N3 := ⟨n.a, n.b, n.c % 4⟩
def N3.hi (n : N3) : N3 := ⟨n.c / 4 * 5 % 18446744073709551616, n.c / 4 * 5 / 18446744073709551616, 0⟩
theorem N3.lo_ok {n : N3} (h : n.Ok) : n.lo.Ok := ⟨h.a, h.b, by show n.c % 4 < _; omega⟩
theorem N3.hi_ok {n : N3} (h : n.Ok) : n.hi.Ok := ⟨by show _ % _ < _; omega, by have := h.c; show _ / _ < _; omega, by show 0 < _; omega⟩

theorem results_cell2 {P : Program} {fn : Func} {p q : Tmp} {ty : TypeId} (h : fn.results = #[.cell p ty, .cell q ty]) (tmps : Array Value) (w : World) (g k : Nat) (t t' : TypeId) (cs ds : Array Value) (fr fr' : Nat × Nat) (d : TypeDesc)
    (hp : tmps.getD p undef = .pointer (some ⟨g, 0, none⟩)) (hg : w.heap[g]? = some (.cells cs t fr))
    (hq : tmps.getD q undef = .pointer (some ⟨k, 0, none⟩)) (hk : w.heap[k]? = some (.cells ds t' fr'))
    (hu : P.underlying ty = some d) (hd : (match d with | .struct _ | .array _ _ => true | _ => false) = true) (hi : (P.info? ty).map (·.size) = some cs.size) (hj : (P.info? ty).map (·.size) = some ds.size) :
    (results fn tmps).run P w = .ok (.tuple #[.agg cs, .agg ds]) w := by
  have hp' : tmps[p]?.getD undef = .pointer (some ⟨g, 0, none⟩) := by simpa using hp
  have hq' : tmps[q]?.getD undef = .pointer (some ⟨k, 0, none⟩) := by simpa using hq
  simp [results, h, hp', hq', asAddr, run_loadVar_row w g t ty cs fr d hg hu hd hi, run_loadVar_row w k t' ty ds fr' d hk hu hd hj]

theorem u64_and3 (a : Nat) (ha : a < 18446744073709551616) : bits .and .u64 (a : Int) 3 = ((a % 4 : Nat) : Int) := by
  rw [show (3 : Int) = ((3 : Nat) : Int) from rfl, u64_and_nat _ _ (by omega) (by omega), show (3 : Nat) = 2 ^ 2 - 1 from rfl, Nat.and_two_pow_sub_one_eq_mod]
theorem nat_div4 (a : Nat) : (a : Int) / 4 = ((a / 4 : Nat) : Int) := by omega

set_option maxRecDepth 100000 in
set_option maxHeartbeats 1000000 in
theorem plow_e (n : N3) (w : World) (hn : n.Ok) :
    Calls Try.prog 104 #[.agg n.cs] w fun e w' => e = .returned (.tuple #[.agg n.lo.cs, .agg n.hi.cs]) ∧ w' = (((w.alloc (.cells n.lo.cs 135)).alloc (.cells n.lo.cs 135)).alloc (.cells n.hi.cs 135)).alloc (.cells #[.int .u64 ((n.c / 4 : Nat) : Int), .int .u64 0, .int .u64 0] 135) := by
  obtain ⟨n0, n1, n2⟩ := n
  obtain ⟨h1, h2, h3⟩ := hn
  simp only at h1 h2 h3
  obtain ⟨r2, hr2⟩ : ∃ r2, n2 % 4 = r2 := ⟨_, rfl⟩
  obtain ⟨q, hq⟩ : ∃ q, n2 / 4 = q := ⟨_, rfl⟩
  obtain ⟨x, hx⟩ : ∃ x, q * 5 % 18446744073709551616 = x := ⟨_, rfl⟩
  obtain ⟨y, hy⟩ : ∃ y, q * 5 / 18446744073709551616 = y := ⟨_, rfl⟩
  have hb : bits .and .u64 (n2 : Int) 3 = (r2 : Int) := by rw [u64_and3 n2 h3, hr2]
  have hd : (n2 : Int) / 4 = (q : Int) := by rw [nat_div4, hq]
  have A1 : ∀ w, Calls Try.prog 103 #[.int .u64 (q : Int), .int .u64 5] w fun e w' => e = .returned (.tuple #[.int .u64 (y : Int), .int .u64 (x : Int)]) ∧ w' = w := fun w => by
    rw [← hx, ← hy]; exact Mul64_any q 5 (by omega) (by omega) w
  have HE : Hid ((N3.lo ⟨n0, n1, n2⟩).cs = #[.int .u64 (n0 : Int), .int .u64 (n1 : Int), .int .u64 (r2 : Int)]) := by
    show _ = _
    simp only [N3.lo, N3.cs, hr2]
  have HF : Hid ((N3.hi ⟨n0, n1, n2⟩).cs = #[.int .u64 (x : Int), .int .u64 (y : Int), .int .u64 0]) := by
    show _ = _
    simp only [N3.hi, N3.cs, hq, hx, hy]; rfl
  rw [HE.out, HF.out]
  simp only [hq]
  clear hr2 hq hx hy h1 h2 h3
  show Calls _ _ #[.agg #[.int .u64 (n0 : Int), .int .u64 (n1 : Int), .int .u64 (n2 : Int)]] _ _
  go_enter Try.func104, Try.ntmps104
  go_wp2_with (go_at_call 103; refine (A1 _).mono ?_; rintro e w1 ⟨rfl, rfl⟩)
  refine bodyPost_ret (results_cell2 rfl _ _ (w.heap.size + 1) (w.heap.size + 1 + 1) 135 135 _ _ (0, 0) (0, 0) _ rfl (alloc4 w _ _ _ _).2.1 rfl (alloc4 w _ _ _ _).2.2.1 Try.underlying135 rfl (by kernel_rfl) (by kernel_rfl)) rfl ⟨rfl, rfl⟩

end Go.Proofs.Ytbdkicmdidcdcaa
namespace Go.Proofs.Ytbdkicmdidcdcaa
open Go.RowKit

theorem plow_any (n : N3) (w : World) (hn : n.Ok) :
    Calls Try.prog 104 #[.agg n.cs] w fun e w' => e = .returned (.tuple #[.agg n.lo.cs, .agg n.hi.cs]) ∧ No w w' :=
  (plow_e n w hn).mono fun _ _ ⟨h, hw⟩ => ⟨h, by rw [hw]; exact (alloc4 w _ _ _ _).2.2.2.2⟩
def N3.red (n : N3) : N3 := n.lo.add n.hi
def N3.less (n : N3) : N3 := if 0 < (n.red.add ⟨5, 0, 0⟩).c / 4 then (n.red.add ⟨5, 0, 0⟩).lo else n.red
theorem N3.red_ok (n : N3) : n.red.Ok := N3.add_ok _ _
theorem N3.less_ok (n : N3) : n.less.Ok := by
  unfold N3.less
  split
  · exact N3.lo_ok (N3.add_ok _ _)
  · exact n.red_ok

/-- The blocks of less. -/
structure LI (w wr : World) (g : Nat) (n e : Array Value) : Prop where
  n : wr.heap[w.heap.size]? = some (.cells n 135 (0, 0))
  o : wr.heap[w.heap.size + 1]? = some (.cells #[.int .u64 0, .int .u64 0, .int .u64 0] 135 (0, 0))
  e : wr.heap[g]? = some (.cells e 135 (0, 0))
  no : No w wr
  pos : w.heap.size + 1 < g
theorem LI.keep {w wr w2 : World} {g : Nat} {n e : Array Value} (h : LI w wr g n e) (hf : No wr w2) : LI w w2 g n e := ⟨hf.heap h.n id, hf.heap h.o id, hf.heap h.e id, h.no.trans hf (fun _ _ a => a), h.pos⟩
theorem LI.store {w wr w2 : World} {g : Nat} {n e n' : Array Value} (h : LI w wr g n e) (hs : w2.heap[w.heap.size]? = some (.cells n' 135 (0, 0))) (hf : Fr (fun k => k = w.heap.size) wr w2) : LI w w2 g n' e :=
  ⟨hs, hf.heap h.o (by omega), hf.heap h.e (by have := h.pos; omega), h.no.trans hf (fun j hj e => by omega), h.pos⟩
theorem LI.store2 {w wr w2 : World} {g : Nat} {n e e' : Array Value} (h : LI w wr g n e) (hs : w2.heap[g]? = some (.cells e' 135 (0, 0))) (hf : Fr (fun k => k = g) wr w2) : LI w w2 g n e' :=
  ⟨hf.heap h.n (by have := h.pos; omega), hf.heap h.o (by have := h.pos; omega), hs, h.no.trans hf (fun j hj e => by have := h.pos; omega), h.pos⟩
theorem LI.next {w wr w2 : World} {g : Nat} {n e e' : Array Value} (h : LI w wr g n e) (hs : w2.heap[wr.heap.size]? = some (.cells e' 135 (0, 0))) (hf : Fr (fun k => k = wr.heap.size) (wr.alloc (.cells #[.int .u64 0, .int .u64 0, .int .u64 0] 135)) w2) : LI w w2 wr.heap.size n e' := by
  have h1 := lt_of_heap h.n
  have h2 := lt_of_heap h.o
  have h3 := lt_of_heap h.e
  have hp := h.pos
  exact ⟨hf.heap ((Below.heap_alloc _ _ _ h1).trans h.n) (by omega), hf.heap ((Below.heap_alloc _ _ _ h2).trans h.o) (by omega), hs, (h.no.alloc _).trans hf (fun j hj e => by have := h.no.size; omega), by omega⟩

set_option maxRecDepth 100000 in
set_option maxHeartbeats 600000 in
theorem pless_any (n : N3) (w : World) (hn : n.Ok) :
    Calls Try.prog 97 #[.agg n.cs] w fun e w' => e = .returned (.agg n.less.cs) ∧ No w w' := by
  have L := fun w => plow_any n w hn
  have A := fun w => padd_any n.lo n.hi w (N3.lo_ok hn) (N3.hi_ok hn)
  have B := fun w => padd_any n.red ⟨5, 0, 0⟩ w n.red_ok ⟨by decide, by decide, by decide⟩
  have HL : Hid (n.less = if 0 < (n.red.add ⟨5, 0, 0⟩).c / 4 then (n.red.add ⟨5, 0, 0⟩).lo else n.red) := rfl
  have hmc := (N3.add_ok n.red ⟨5, 0, 0⟩).c
  change ∀ w, Calls _ _ _ w fun e w' => e = .returned (.agg n.red.cs) ∧ No w w' at A
  rw [HL.out]; clear HL
  obtain ⟨m, hm⟩ : ∃ m, n.red.add ⟨5, 0, 0⟩ = m := ⟨_, rfl⟩
  rw [hm] at B hmc ⊢
  clear hm hn
  generalize n.red = r at *
  generalize n.lo = lo at *
  generalize n.hi = hi at *
  obtain ⟨m0, m1, m2⟩ := m
  obtain ⟨n0, n1, n2⟩ := n
  obtain ⟨r0, r1, r2⟩ := r
  obtain ⟨l0, l1, l2⟩ := lo
  obtain ⟨e0, e1, e2⟩ := hi
  simp only [N3.cs, N3.lo] at *
  change ∀ w, Calls _ _ #[.agg #[.int .u64 (r0 : Int), .int .u64 (r1 : Int), .int .u64 (r2 : Int)], .agg #[.int .u64 5, .int .u64 0, .int .u64 0]] w _ at B
  have hd : (m2 : Int) / 4 = ((m2 / 4 : Nat) : Int) := nat_div4 m2
  obtain ⟨q2, hq2⟩ : ∃ q2, m2 / 4 = q2 := ⟨_, rfl⟩
  obtain ⟨z2, hz2⟩ : ∃ z2, m2 % 4 = z2 := ⟨_, rfl⟩
  have hb : bits .and .u64 (m2 : Int) 3 = (z2 : Int) := by rw [u64_and3 m2 hmc, hz2]
  rw [hq2] at hd ⊢
  rw [hz2]
  clear hq2 hz2 hmc
  have HP : Hid (∀ a b : Array Value, ((w.alloc (.cells a 135)).alloc (.cells b 135)).heap[w.heap.size]? = some (.cells a 135 (0, 0)) ∧ ((w.alloc (.cells a 135)).alloc (.cells b 135)).heap[w.heap.size + 1]? = some (.cells b 135 (0, 0))) := fun a b => ⟨heap_prev _ _ _, heap_last2 _ _ _⟩
  have HQ : Hid (∀ a b : Obj, No w ((w.alloc a).alloc b)) := fun a b => ((Fr.refl _ _).alloc _).alloc _
  have HX : Hid ((if 0 < q2 then (⟨m0, m1, z2⟩ : N3) else ⟨r0, r1, r2⟩).cs = if 0 < q2 then #[.int .u64 (m0 : Int), .int .u64 (m1 : Int), .int .u64 (z2 : Int)] else #[.int .u64 (r0 : Int), .int .u64 (r1 : Int), .int .u64 (r2 : Int)]) := by
    show _ = _; split <;> rfl
  change Calls _ _ _ w fun e w' => e = .returned (.agg (N3.cs _)) ∧ _
  rw [HX.out]
  clear HX
  by_cases hq0 : 0 < q2
  all_goals
   first | (have hq1 : (0 : Int) < q2 := by omega) | (have hq1 : (q2 : Int) = 0 := by omega)
   first | rw [if_pos hq0] | rw [if_neg hq0]
   go_enter Try.func97, Try.ntmps97
   go_wp2_with (first
     | (go_at_call 104; refine (L _).mono ?_; rintro e w1 ⟨rfl, hn⟩; have B1 : Hid (No w w1) := (HQ.out _ _).trans hn (fun _ _ a => a); have B2 : Hid (w1.heap[w.heap.size]? = _) := hn.heap (HP.out _ _).1 id; have B3 : Hid (w1.heap[w.heap.size + 1]? = _) := hn.heap (HP.out _ _).2 id; clear hn)
     | (refine wpList_store_row' rfl 135 (.tmp 1) (.tmp 8) rfl _ _ rfl rfl _ _ ((Below.heap_alloc _ _ _ (lt_of_heap B2.out)).trans B2.out) (by kernel_rfl) (by kernel_rfl) (by simp [Value.oneCell']) ?_; intro w2 a1 a2 a3 a4; have a5 : w2.heap.size = w1.heap.size + 1 := (by rw [a3]; simp); have C1 : Hid (LI w w2 w1.heap.size _ _) := ⟨a1, (a2 _ (by omega)).trans ((Below.heap_alloc _ _ _ (lt_of_heap B3.out)).trans B3.out), (a2 _ (by have := lt_of_heap B3.out; omega)).trans (heap_alloc_new _ _), (B1.out.alloc _).trans a4 (fun j hj e => by omega), by have := lt_of_heap B3.out; omega⟩; clear a1 a2 a3 a4 a5)
     | (refine wpList_store_row' rfl 135 (.tmp 3) (.tmp 9) rfl _ _ rfl rfl _ _ C1.out.e (by kernel_rfl) (by kernel_rfl) (by simp [Value.oneCell']) ?_; intro w3 a1 a2 a3 a4; have C2 : Hid (LI w w3 w1.heap.size _ _) := C1.out.store2 a1 a4; clear a1 a2 a3 a4)
     | (refine wpList_load_row rfl 135 (.tmp 1) rfl _ rfl _ _ _ _ C2.out.n Try.underlying135 rfl (by kernel_rfl) ?_)
     | (refine wpList_load_row rfl 135 (.tmp 3) rfl _ rfl _ _ _ _ C2.out.e Try.underlying135 rfl (by kernel_rfl) ?_)
     | (have hc4 := C4; clear hc4; go_at_call 95; refine (B _).mono ?_; rintro e w6 ⟨rfl, hn⟩; have C5 := _root_.Go.Lib.hid (C4.out.keep hn); clear hn)
     | (go_at_call 95; refine (A _).mono ?_; rintro e w4 ⟨rfl, hn⟩; have C3 := _root_.Go.Lib.hid (C2.out.keep hn); clear hn)
     | (refine wpList_store_row' rfl 135 (.tmp 1) (.tmp 12) rfl _ _ rfl rfl _ _ C3.out.n (by kernel_rfl) (by kernel_rfl) (by simp [Value.oneCell']) ?_; intro w5 a1 a2 a3 a4; have C4 : Hid (LI w w5 w1.heap.size _ _) := C3.out.store a1 a4; clear a1 a2 a3 a4)
     | (refine wpList_load_row rfl 135 (.tmp 1) rfl _ rfl _ _ _ _ C4.out.n Try.underlying135 rfl (by kernel_rfl) ?_)
     | (refine wpList_store_row' rfl 135 (.tmp 4) (.tmp 15) rfl _ _ rfl rfl _ _ (heap_alloc_new _ _) (by kernel_rfl) (by kernel_rfl) (by simp [Value.oneCell']) ?_; intro w7 a1 a2 a3 a4; have C6 : Hid (LI w w7 w6.heap.size _ _) := C5.out.next a1 a4; clear a1 a2 a3 a4; have c2 : w7.cell? ⟨w6.heap.size, 2, none⟩ = some (.int .u64 (m2 : Int)) := (by rw [cell_of_row _ _ _ _ _ _ C6.out.e]; rfl); have f2 := frozen_row C6.out.e 2; have G1 : Hid (∀ u : Value, (w7.setCell ⟨w6.heap.size, 2, none⟩ u).heap[w6.heap.size]? = some (.cells #[.int .u64 (m0 : Int), .int .u64 (m1 : Int), u] 135 (0, 0))) := (fun u => by rw [heap_setCell_row C6.out.e]; rfl))
     | (refine wpList_load_row rfl 135 (.tmp 4) rfl _ rfl _ _ _ _ (G1.out _) Try.underlying135 rfl (by kernel_rfl) ?_)
     | (have hg := hq0; refine wpList_store_row' rfl 135 (.tmp 2) (.tmp 24) rfl _ _ rfl rfl _ _ (heap_setCell_ne C6.out.o _ (by have := C6.out.pos; simp only; omega)) (by kernel_rfl) (by kernel_rfl) (by simp [Value.oneCell']) ?_; intro w8 a1 a2 a3 a4; have D1 := _root_.Go.Lib.hid a1; have D2 : Hid (No w w8) := (C6.out.no.setCell _ _ (fun e => by have := C6.out.pos; simp only at e; omega)).trans a4 (fun j hj e => by omega); clear a1 a2 a3 a4)
     | (refine wpList_load_row rfl 135 (.tmp 1) rfl _ rfl _ _ _ _ C6.out.n Try.underlying135 rfl (by kernel_rfl) ?_)
     | (refine wpList_store_row' rfl 135 (.tmp 2) (.tmp 25) rfl _ _ rfl rfl _ _ C6.out.o (by kernel_rfl) (by kernel_rfl) (by simp [Value.oneCell']) ?_; intro w8 a1 a2 a3 a4; have D1 := _root_.Go.Lib.hid a1; have D2 : Hid (No w w8) := C6.out.no.trans a4 (fun j hj e => by omega); clear a1 a2 a3 a4))
   refine bodyPost_cell rfl (w.heap.size + 1) 135 _ (0, 0) _ rfl D1.out Try.underlying135 rfl (by kernel_rfl) rfl ⟨rfl, D2.out⟩
end Go.Proofs.Ytbdkicmdidcdcaa
namespace Go.Proofs.Ytbdkicmdidcdcaa
open Go.RowKit

def rdN (b : List UInt8) (more : Nat) : Nat → N3
  | 0 => ⟨0, 0, more⟩
  | i + 1 =>
    let n := rdN b more i
    if i < 8 then ⟨n.a ||| (b.getD i 0).toNat * 2 ^ (8 * (i % 8)) % 18446744073709551616, n.b, n.c⟩
    else ⟨n.a, n.b ||| (b.getD i 0).toNat * 2 ^ (8 * (i % 8)) % 18446744073709551616, n.c⟩
theorem or64 {a b : Nat} (ha : a < 18446744073709551616) (hb : b < 18446744073709551616) : a ||| b < 18446744073709551616 := by
  rw [show (18446744073709551616 : Nat) = 2 ^ 64 from rfl] at *; exact Nat.or_lt_two_pow ha hb
theorem rdN_ok (b : List UInt8) (more : Nat) (hm : more < 18446744073709551616) : ∀ i, (rdN b more i).Ok
  | 0 => ⟨by show 0 < _; omega, by show 0 < _; omega, hm⟩
  | i + 1 => by
    have ih := rdN_ok b more hm i
    unfold rdN
    simp only
    split
    · exact ⟨or64 ih.a (Nat.mod_lt _ (by omega)), ih.b, ih.c⟩
    · exact ⟨ih.a, or64 ih.b (Nat.mod_lt _ (by omega)), ih.c⟩

theorem orsh (n s : Nat) (x : UInt8) (hn : n < 18446744073709551616) : bits .or .u64 (n : Int) (IntKind.u64.wrap (by8 x * 2 ^ s)) = ((n ||| x.toNat * 2 ^ s % 18446744073709551616 : Nat) : Int) := by
  rw [show by8 x * 2 ^ s = ((x.toNat * 2 ^ s : Nat) : Int) from by unfold by8; simp, u64_mod, u64_or_nat _ _ hn (Nat.mod_lt _ (by omega))]

structure RI (w wr : World) (n : N3) : Prop where
  o : wr.heap[w.heap.size]? = some (.cells #[.int .u64 0, .int .u64 0, .int .u64 0] 135 (0, 0))
  n : wr.heap[w.heap.size + 1]? = some (.cells n.cs 135 (0, 0))
  no : No w wr

theorem RI.keep {w wr w2 : World} {n : N3} (h : RI w wr n) (hf : No wr w2) : RI w w2 n := ⟨hf.heap h.o id, hf.heap h.n id, h.no.trans hf (fun _ _ a => a)⟩

set_option maxRecDepth 100000 in
set_option maxHeartbeats 1000000 in
theorem pread_any (v : Value) (b : List UInt8) (more : Nat) (w : World) (hv : RB w v b) (hb : 16 ≤ b.length) (hm : more < 18446744073709551616) :
    Calls Try.prog 94 #[v, .int .u64 more] w fun e w' => e = .returned (.agg (rdN b more 16).cs) ∧ No w w' := by
  have HV := _root_.Go.Lib.hid hv
  obtain ⟨va, vc, hva⟩ := hv.form
  subst hva
  have hsh := hv.shape
  have HSH := _root_.Go.Lib.hid hsh
  have HOK := fun i => _root_.Go.Lib.hid (rdN_ok b more hm i)
  have HB := _root_.Go.Lib.hid hb
  have HM := _root_.Go.Lib.hid hm
  have hb' : (16 : Int) ≤ b.length := by omega
  obtain ⟨nb, hnb⟩ : ∃ nb, b.length = nb := ⟨_, rfl⟩
  rw [hnb] at HV HSH HB hb' ⊢
  have HNB := _root_.Go.Lib.hid hnb
  obtain ⟨r, hr⟩ : ∃ r, rdN b more 16 = r := ⟨_, rfl⟩
  obtain ⟨r0, r1, r2⟩ := r
  have HE := _root_.Go.Lib.hid hr
  rw [HE.out]
  clear hv hsh hnb hb hm hr
  go_enter Try.func94, Try.ntmps94
  go_wp2_with fail
  go_loopw [9] (fun x wr => ∃ i : Nat, i ≤ 16 ∧ x = .int .i64 i ∧ RI w wr (rdN b more i)) (fun x _ => 16 - (intOf x).toNat)
  case atStart => exact ⟨0, by omega, rfl, heap_prev _ _ _, heap_last2 _ _ _, ((Fr.refl _ _).alloc _).alloc _⟩
  case round =>
    obtain ⟨i, hi, rfl, hR⟩ := hrel
    have F0 := _root_.Go.Lib.hid hR
    clear hR
    by_cases hlt : i < 16
    · have hlt' : (i : Int) < 16 := by omega
      rcases HSH.out with ⟨_, h⟩ | ⟨gv, ov, cv, hq, hnc, hcm, hgw, hcell⟩
      · have := HNB.out; have := HB.out; rw [h] at *; simp at *; omega
      simp only [Value.slice.injEq] at hq
      obtain ⟨rfl, _, rfl⟩ := hq
      have HCE := _root_.Go.Lib.hid hcell
      clear hcell
      have c1 : wr.cell? ⟨gv, ov + i, none⟩ = some (.int .u8 (by8 (b.getD i 0))) := (F0.out.no.cell (p := ⟨gv, ov + i, none⟩) hgw id).trans (HCE.out i (by have := HB.out; omega))
      have hib : (i : Int) < nb := by omega
      by_cases h8 : i < 8
      · have h8' : (i : Int) < 8 := by omega
        have hok := (HOK i).out
        have HS : Hid (rdN b more (i + 1) = ⟨(rdN b more i).a ||| (b.getD i 0).toNat * 2 ^ (8 * (i % 8)) % 18446744073709551616, (rdN b more i).b, (rdN b more i).c⟩) := by show _ = _; rw [rdN]; simp only [if_pos h8]
        generalize rdN b more i = n at *
        generalize b.getD i 0 = xb at *
        obtain ⟨n0, n1, n2⟩ := n
        simp only at HS
        have c2 : wr.cell? ⟨w.heap.size + 1, 0, none⟩ = some (.int .u64 (n0 : Int)) := by rw [cell_of_row _ _ _ _ _ _ F0.out.n]; rfl
        have f2 := frozen_row F0.out.n 0
        have e1 : (i : Int) / 8 = 0 := by omega
        have e3 : (0 : Int) ≤ i := by omega
        have e4 : IntKind.i64.wrap 0 = 0 := rfl
        obtain ⟨s, hs⟩ : ∃ s, 8 * (i % 8) = s := ⟨_, rfl⟩
        rw [hs] at HS
        have e6 : IntKind.i64.wrap (8 * (i : Int).tmod 8) = (s : Int) := by rw [Int.tmod_eq_emod_of_nonneg e3, IntWalk.i64_in _ (by omega)]; omega
        have e7 : (0 : Int) ≤ (s : Int) := by omega
        have e8 : (s : Int) ≤ 64 := by omega
        have e9 : bits .or .u64 (n0 : Int) (IntKind.u64.wrap (by8 xb * 2 ^ s)) = ((n0 ||| xb.toNat * 2 ^ s % 18446744073709551616 : Nat) : Int) := orsh _ _ _ hok.a
        generalize n0 ||| xb.toNat * 2 ^ s % 18446744073709551616 = r at *
        clear hs hok
        go_wp2_with fail
        refine wp_region_tail 15 (by kernel_rfl) (by kernel_rfl) ?_
        simp only [List.take_succ_cons, List.take_zero, List.drop_succ_cons, List.drop_zero]
        repeat still_step
        refine wpStill_nil ?_
        go_wp2
        go_roundw
        case rel =>
          refine ⟨i + 1, by omega, by go_num, ?_⟩
          rw [HS.out]
          exact RI.keep ⟨heap_setCell_ne F0.out.o _ (by simp only; omega), by rw [show _ = _ from heap_setCell_row F0.out.n 0 _]; rfl, F0.out.no.setCell _ _ (fun e => by simp only at e; omega)⟩ (Fr.refl _ _).drew
        case measure => simp [intOf]; omega
      · have h8' : (8 : Int) ≤ i := by omega
        have hok := (HOK i).out
        have HS : Hid (rdN b more (i + 1) = ⟨(rdN b more i).a, (rdN b more i).b ||| (b.getD i 0).toNat * 2 ^ (8 * (i % 8)) % 18446744073709551616, (rdN b more i).c⟩) := by show _ = _; rw [rdN]; simp only [if_neg h8]
        generalize rdN b more i = n at *
        generalize b.getD i 0 = xb at *
        obtain ⟨n0, n1, n2⟩ := n
        simp only at HS
        have c2 : wr.cell? ⟨w.heap.size + 1, 1, none⟩ = some (.int .u64 (n1 : Int)) := by rw [cell_of_row _ _ _ _ _ _ F0.out.n]; rfl
        have f2 := frozen_row F0.out.n 1
        have e1 : (i : Int) / 8 = 1 := by omega
        have e3 : (0 : Int) ≤ i := by omega
        have e4 : IntKind.i64.wrap 1 = 1 := rfl
        obtain ⟨s, hs⟩ : ∃ s, 8 * (i % 8) = s := ⟨_, rfl⟩
        rw [hs] at HS
        have e6 : IntKind.i64.wrap (8 * (i : Int).tmod 8) = (s : Int) := by rw [Int.tmod_eq_emod_of_nonneg e3, IntWalk.i64_in _ (by omega)]; omega
        have e7 : (0 : Int) ≤ (s : Int) := by omega
        have e8 : (s : Int) ≤ 64 := by omega
        have e9 : bits .or .u64 (n1 : Int) (IntKind.u64.wrap (by8 xb * 2 ^ s)) = ((n1 ||| xb.toNat * 2 ^ s % 18446744073709551616 : Nat) : Int) := orsh _ _ _ hok.b
        generalize n1 ||| xb.toNat * 2 ^ s % 18446744073709551616 = r at *
        clear hs hok
        go_wp2_with fail
        refine wp_region_tail 15 (by kernel_rfl) (by kernel_rfl) ?_
        simp only [List.take_succ_cons, List.take_zero, List.drop_succ_cons, List.drop_zero]
        repeat still_step
        refine wpStill_nil ?_
        go_wp2
        go_roundw
        case rel =>
          refine ⟨i + 1, by omega, by go_num, ?_⟩
          rw [HS.out]
          exact RI.keep ⟨heap_setCell_ne F0.out.o _ (by simp only; omega), by rw [show _ = _ from heap_setCell_row F0.out.n 1 _]; rfl, F0.out.no.setCell _ _ (fun e => by simp only at e; omega)⟩ (Fr.refl _ _).drew
        case measure => simp [intOf]; omega
    · have hi16 : i = 16 := by omega
      subst hi16
      rw [HE.out] at F0
      go_wp2_with (first
        | (refine wpList_load_row rfl 135 (.tmp 5) rfl _ rfl _ _ _ _ F0.out.n Try.underlying135 rfl (by kernel_rfl) ?_)
        | (refine wpList_store_row' rfl 135 (.tmp 4) (.tmp 28) rfl _ _ rfl rfl _ _ F0.out.o (by kernel_rfl) (by kernel_rfl) (by simp [Value.oneCell', N3.cs]) ?_; intro w8 a1 a2 a3 a4; have D1 := _root_.Go.Lib.hid a1; have D2 : Hid (No w w8) := F0.out.no.trans a4 (fun j hj e => by omega); clear a1 a2 a3 a4))
      refine bodyPost_cell rfl w.heap.size 135 _ (0, 0) _ rfl D1.out Try.underlying135 rfl (by kernel_rfl) rfl ⟨rfl, D2.out⟩
end Go.Proofs.Ytbdkicmdidcdcaa
namespace Go.Proofs.Ytbdkicmdidcdcaa
open Go.RowKit

/-- Words of 64 bits. -/
def us (l : List Nat) : List Value := l.map fun (x : Nat) => .int .u64 (x : Int)
theorem us_length (l : List Nat) : (us l).length = l.length := by simp [us]
theorem us_set (l : List Nat) (j x : Nat) : (us l).set j (.int .u64 (x : Int)) = us (l.set j x) := by simp [us, List.map_set]
theorem us_getD {l : List Nat} {j : Nat} (h : j < l.length) : (us l)[j]? = some (.int .u64 ((l.getD j 0 : Nat) : Int)) := by simp [us, h]
theorem cell_us {w : World} {g : Nat} {t : TypeId} {fz : Nat × Nat} {l : List Nat} (h : w.heap[g]? = some (.cells (us l).toArray t fz)) (j : Nat) (hj : j < l.length) : w.cell? ⟨g, j, none⟩ = some (.int .u64 ((l.getD j 0 : Nat) : Int)) := by
  rw [cell_of_row _ _ _ _ _ _ h, List.getElem?_toArray, us_getD hj]
theorem set_us {w : World} {g : Nat} {t : TypeId} {fz : Nat × Nat} {l : List Nat} (h : w.heap[g]? = some (.cells (us l).toArray t fz)) (j x : Nat) : (w.setCell ⟨g, j, none⟩ (.int .u64 (x : Int))).heap[g]? = some (.cells (us (l.set j x)).toArray t fz) := by
  rw [heap_setCell_row h, List.setIfInBounds_toArray, us_set]

def N3.get (n : N3) (i : Nat) : Nat := if i = 0 then n.a else if i = 1 then n.b else n.c
theorem N3.get_ok {n : N3} (h : n.Ok) (i : Nat) : n.get i < 18446744073709551616 := by
  unfold N3.get
  split
  · exact h.a
  · split
    · exact h.b
    · exact h.c
theorem N3.cs_us (n : N3) : n.cs = (us [n.a, n.b, n.c]).toArray := rfl
theorem N3.getD (n : N3) (i : Nat) (hi : i < 3) : [n.a, n.b, n.c].getD i 0 = n.get i := by
  obtain rfl | rfl | rfl : i = 0 ∨ i = 1 ∨ i = 2 := by omega
  all_goals rfl

def kLo (x y c : Nat) : Nat := (x * y % 18446744073709551616 + c) % 18446744073709551616
def kHi (x y c : Nat) : Nat := (x * y / 18446744073709551616 + (x * y % 18446744073709551616 + c) / 18446744073709551616) % 18446744073709551616
def kP (x y p c : Nat) : Nat := (p + kLo x y c) % 18446744073709551616
def kC (x y p c : Nat) : Nat := (kHi x y c + (p + kLo x y c) / 18446744073709551616) % 18446744073709551616
def pI (n r : N3) (i : Nat) (p : List Nat) : Nat → List Nat × Nat
  | 0 => (p, 0)
  | k + 1 => ((pI n r i p k).1.set (i + k) (kP (n.get i) (r.get k) ((pI n r i p k).1.getD (i + k) 0) (pI n r i p k).2), kC (n.get i) (r.get k) ((pI n r i p k).1.getD (i + k) 0) (pI n r i p k).2)
def pO (n r : N3) : Nat → List Nat
  | 0 => [0, 0, 0, 0, 0]
  | i + 1 => (pI n r i (pO n r i) 2).1.set (i + 2) (((pI n r i (pO n r i) 2).1.getD (i + 2) 0 + (pI n r i (pO n r i) 2).2) % 18446744073709551616)
/-- Five words, each below 2^64. -/
def P5 (p : List Nat) : Prop := p.length = 5 ∧ ∀ j, p.getD j 0 < 18446744073709551616
theorem P5.set {p : List Nat} (h : P5 p) (j x : Nat) (hx : x < 18446744073709551616) : P5 (p.set j x) := by
  refine ⟨by simp [h.1], fun k => ?_⟩
  have := h.2 k
  simp only [List.getD_eq_getElem?_getD, List.getElem?_set] at this ⊢
  split
  · split <;> simp <;> omega
  · exact this
theorem pI_ok (n r : N3) (i : Nat) (p : List Nat) (hp : P5 p) : ∀ k, P5 (pI n r i p k).1 ∧ (pI n r i p k).2 < 18446744073709551616
  | 0 => ⟨hp, by show 0 < _; omega⟩
  | k + 1 => ⟨(pI_ok n r i p hp k).1.set _ _ (Nat.mod_lt _ (by omega)), Nat.mod_lt _ (by omega)⟩
theorem pO_ok (n r : N3) : ∀ i, P5 (pO n r i)
  | 0 => ⟨rfl, fun j => by
    match j with
    | 0 | 1 | 2 | 3 | 4 => show 0 < _; omega
    | j + 5 => show 0 < _; omega⟩
  | i + 1 => (pI_ok n r i _ (pO_ok n r i) 2).1.set _ _ (Nat.mod_lt _ (by omega))
def pLow (p : List Nat) : N3 := ⟨p.getD 0 0, p.getD 1 0, p.getD 2 0 % 4⟩
def pHigh (p : List Nat) : N3 := ⟨p.getD 2 0 / 4 ||| p.getD 3 0 * 4611686018427387904 % 18446744073709551616, p.getD 3 0 / 4 ||| p.getD 4 0 * 4611686018427387904 % 18446744073709551616, p.getD 4 0 / 4⟩
theorem pLow_ok {p : List Nat} (h : P5 p) : (pLow p).Ok := ⟨h.2 0, h.2 1, by have := h.2 2; show _ % 4 < _; omega⟩
theorem pHigh_ok {p : List Nat} (h : P5 p) : (pHigh p).Ok :=
  ⟨or64 (by have := h.2 2; omega) (Nat.mod_lt _ (by omega)), or64 (by have := h.2 3; omega) (Nat.mod_lt _ (by omega)), by have := h.2 4; show _ / 4 < _; omega⟩
def N3.five (h : N3) : N3 := (((h.add h).add h).add h).add h
def N3.times (n r : N3) : N3 := ((pLow (pO n r 3)).add (pHigh (pO n r 3)).five).red
theorem N3.times_ok (n r : N3) : (n.times r).Ok := N3.red_ok _
end Go.Proofs.Ytbdkicmdidcdcaa
namespace Go.Proofs.Ytbdkicmdidcdcaa
open Go.RowKit

/-- The blocks of times: the two numbers, the result, the five words. -/
structure TI (w wr : World) (n r : N3) (p : List Nat) : Prop where
  n : wr.heap[w.heap.size]? = some (.cells n.cs 135 (0, 0))
  r : wr.heap[w.heap.size + 1]? = some (.cells r.cs 135 (0, 0))
  o : wr.heap[w.heap.size + 1 + 1]? = some (.cells #[.int .u64 0, .int .u64 0, .int .u64 0] 135 (0, 0))
  p : wr.heap[w.heap.size + 1 + 1 + 1]? = some (.cells (us p).toArray 146 (0, 0))
  no : No w wr
theorem TI.keep {w wr w2 : World} {n r : N3} {p : List Nat} (h : TI w wr n r p) (hf : No wr w2) : TI w w2 n r p := ⟨hf.heap h.n id, hf.heap h.r id, hf.heap h.o id, hf.heap h.p id, h.no.trans hf (fun _ _ a => a)⟩
theorem TI.set {w wr : World} {n r : N3} {p : List Nat} (h : TI w wr n r p) (j x : Nat) : TI w (wr.setCell ⟨w.heap.size + 1 + 1 + 1, j, none⟩ (.int .u64 (x : Int))) n r (p.set j x) :=
  ⟨heap_setCell_ne h.n _ (by simp only; omega), heap_setCell_ne h.r _ (by simp only; omega), heap_setCell_ne h.o _ (by simp only; omega), set_us h.p j x, h.no.setCell _ _ (fun e => by simp only at e; omega)⟩
theorem TI.cn {w wr : World} {n r : N3} {p : List Nat} (h : TI w wr n r p) (i : Nat) (hi : i < 3) : wr.cell? ⟨w.heap.size, i, none⟩ = some (.int .u64 ((n.get i : Nat) : Int)) := by
  rw [← N3.getD n i hi]; exact cell_us (by rw [h.n, N3.cs_us]) i hi
theorem TI.cr {w wr : World} {n r : N3} {p : List Nat} (h : TI w wr n r p) (i : Nat) (hi : i < 3) : wr.cell? ⟨w.heap.size + 1, i, none⟩ = some (.int .u64 ((r.get i : Nat) : Int)) := by
  rw [← N3.getD r i hi]; exact cell_us (by rw [h.r, N3.cs_us]) i hi

/-- The blocks of times behind its loops. -/
structure YI (w : World) (g : Nat) (n h l : N3) (w' : World) : Prop where
  n : w'.heap[w.heap.size]? = some (.cells n.cs 135 (0, 0))
  o : w'.heap[w.heap.size + 1 + 1]? = some (.cells #[.int .u64 0, .int .u64 0, .int .u64 0] 135 (0, 0))
  l : w'.heap[g]? = some (.cells l.cs 135 (0, 0))
  h : w'.heap[g + 1]? = some (.cells h.cs 135 (0, 0))
  no : No w w'
  pos : w.heap.size + 1 + 1 + 1 < g
theorem YI.keep {w : World} {g : Nat} {n h l : N3} {w1 w2 : World} (y : YI w g n h l w1) (hf : No w1 w2) : YI w g n h l w2 :=
  ⟨hf.heap y.n id, hf.heap y.o id, hf.heap y.l id, hf.heap y.h id, y.no.trans hf (fun _ _ a => a), y.pos⟩
theorem YI.store {w : World} {g b : Nat} {n h l : N3} {w1 w2 : World} (y : YI w g n h l w1) (hf : Fr (fun k => k = b) w1 w2) (hb : g + 1 < b) : YI w g n h l w2 :=
  ⟨hf.heap y.n (by have := y.pos; omega), hf.heap y.o (by have := y.pos; omega), hf.heap y.l (by omega), hf.heap y.h (by omega), y.no.trans hf (fun j hj e => by have := y.pos; omega), y.pos⟩
theorem YI.set3 {w : World} {g b : Nat} {n h l : N3} {w1 : World} {u v x : Value} (y : YI w g n h l w1) (hb : g + 1 < b) : YI w g n h l (((w1.setCell ⟨b, 0, none⟩ u).setCell ⟨b, 1, none⟩ v).setCell ⟨b, 2, none⟩ x) :=
  YI.store (b := b) y ((((Fr.refl (fun k => k = b) w1).setCell _ _ (fun _ => rfl)).setCell _ _ (fun _ => rfl)).setCell _ _ (fun _ => rfl)) hb
theorem row3 {w : World} {b : Nat} {t : TypeId} {fz : Nat × Nat} {a c d : Value} (h : w.heap[b]? = some (.cells #[a, c, d] t fz)) (u v x : Value) : (((w.setCell ⟨b, 0, none⟩ u).setCell ⟨b, 1, none⟩ v).setCell ⟨b, 2, none⟩ x).heap[b]? = some (.cells #[u, v, x] t fz) := by
  rw [heap_setCell_row (heap_setCell_row (heap_setCell_row h 0 u) 1 v) 2 x]; rfl
theorem YI.all {w : World} {g : Nat} {n l : N3} {h0 h1 h2 : Nat} {w1 : World} (y : YI w g n ⟨h0, h1, h2⟩ l w1) :
    w1.cell? ⟨g + 1, 0, none⟩ = some (.int .u64 (h0 : Int)) ∧ w1.cell? ⟨g + 1, 1, none⟩ = some (.int .u64 (h1 : Int)) ∧ w1.cell? ⟨g + 1, 2, none⟩ = some (.int .u64 (h2 : Int)) ∧ YI w g n ⟨h0, h1, h2⟩ l w1 :=
  ⟨by rw [cell_of_row _ _ _ _ _ _ y.h]; rfl, by rw [cell_of_row _ _ _ _ _ _ y.h]; rfl, by rw [cell_of_row _ _ _ _ _ _ y.h]; rfl, y⟩
theorem pHigh_words (p : List Nat) (hp : P5 p) : ∃ z3 y2 z4 y3 : Nat,
    IntKind.u64.wrap (((p.getD 3 0 : Nat) : Int) * 4611686018427387904) = (z3 : Int) ∧ ((p.getD 2 0 : Nat) : Int) / 4 = (y2 : Int) ∧ bits .or .u64 (y2 : Int) (z3 : Int) = (((pHigh p).a : Nat) : Int) ∧
    IntKind.u64.wrap (((p.getD 4 0 : Nat) : Int) * 4611686018427387904) = (z4 : Int) ∧ ((p.getD 3 0 : Nat) : Int) / 4 = (y3 : Int) ∧ bits .or .u64 (y3 : Int) (z4 : Int) = (((pHigh p).b : Nat) : Int) ∧
    ((p.getD 4 0 : Nat) : Int) / 4 = (((pHigh p).c : Nat) : Int) ∧ bits .and .u64 ((p.getD 2 0 : Nat) : Int) 3 = (((pLow p).c : Nat) : Int) := by
  have h2 := hp.2 2
  have h3 := hp.2 3
  refine ⟨p.getD 3 0 * 4611686018427387904 % 18446744073709551616, p.getD 2 0 / 4, p.getD 4 0 * 4611686018427387904 % 18446744073709551616, p.getD 3 0 / 4, ?_, nat_div4 _, ?_, ?_, nat_div4 _, ?_, nat_div4 _, u64_and3 _ h2⟩
  · rw [show ((p.getD 3 0 : Nat) : Int) * 4611686018427387904 = ((p.getD 3 0 * 4611686018427387904 : Nat) : Int) from by omega, u64_mod]
  · exact u64_or_nat _ _ (by omega) (Nat.mod_lt _ (by omega))
  · rw [show ((p.getD 4 0 : Nat) : Int) * 4611686018427387904 = ((p.getD 4 0 * 4611686018427387904 : Nat) : Int) from by omega, u64_mod]
  · exact u64_or_nat _ _ (by omega) (Nat.mod_lt _ (by omega))

set_option maxRecDepth 100000 in
set_option maxHeartbeats 20000000 in
theorem ptimes_any (n r : N3) (w : World) (hn : n.Ok) (hr : r.Ok) :
    Calls Try.prog 96 #[.agg n.cs, .agg r.cs] w fun e w' => e = .returned (.agg (n.times r).cs) ∧ No w w' := by
  have HN := _root_.Go.Lib.hid hn
  have HR := _root_.Go.Lib.hid hr
  have HNZ : Hid (n.cs.size = 3) := rfl
  have HRZ : Hid (r.cs.size = 3) := rfl
  clear hn hr
  go_enter Try.func96, Try.ntmps96
  go_wp2_with fail
  go_loopw [16] (fun x wr => ∃ i : Nat, i ≤ 3 ∧ x = .int .i64 i ∧ TI w wr n r (pO n r i)) (fun x _ => 3 - (intOf x).toNat)
  case atStart =>
    obtain ⟨h1, h2, h3, h4, h5⟩ := alloc4 w (.cells n.cs 135) (.cells r.cs 135) (.cells #[.int .u64 0, .int .u64 0, .int .u64 0] 135) (.cells (us [0, 0, 0, 0, 0]).toArray 146)
    exact ⟨0, by omega, rfl, h1, h2, h3, h4, h5⟩
  case round =>
    obtain ⟨i, hi, rfl, hT⟩ := hrel
    have F0 := _root_.Go.Lib.hid hT
    clear hT
    by_cases hlt : i < 3
    · have hlt' : (i : Int) < 3 := by omega
      have e0 : (0 : Int) ≤ i := by omega
      go_wp2_with fail
      obtain ⟨wo, rfl⟩ : ∃ wo : World, wo = wr := ⟨_, rfl⟩
      go_loopw [7, 19] (fun c x wr => ∃ k : Nat, k ≤ 2 ∧ x = .int .i64 k ∧ c = .int .u64 (((pI n r i (pO n r i) k).2 : Nat) : Int) ∧ TI w wr n r (pI n r i (pO n r i) k).1) (fun _ x _ => 2 - (intOf x).toNat)
      case atStart => exact ⟨0, by omega, rfl, rfl, F0.out⟩
      case round =>
        obtain ⟨k, hk, rfl, rfl, hT⟩ := hrel
        have F1 := _root_.Go.Lib.hid hT
        clear hT
        by_cases hk2 : k < 2
        · have hk2' : (k : Int) < 2 := by omega
          have e1 : (0 : Int) ≤ k := by omega
          have hk3 : (k : Int) < 3 := by omega
          have hpi := pI_ok n r i _ (pO_ok n r i) k
          obtain ⟨⟨hpl, hpv⟩, hcc⟩ := hpi
          have HSp : Hid ((pI n r i (pO n r i) (k + 1)).1 = _) := rfl
          have HSc : Hid ((pI n r i (pO n r i) (k + 1)).2 = _) := rfl
          change Hid (_ = List.set _ (i + k) (kP (n.get i) (r.get k) ((pI n r i (pO n r i) k).1.getD (i + k) 0) (pI n r i (pO n r i) k).2)) at HSp
          change Hid (_ = kC (n.get i) (r.get k) ((pI n r i (pO n r i) k).1.getD (i + k) 0) (pI n r i (pO n r i) k).2) at HSc
          have c1 := F1.out.cn i hlt
          have c2 := F1.out.cr k (by omega)
          have hxx := N3.get_ok HN.out i
          have hyy := N3.get_ok HR.out k
          obtain ⟨m, hm⟩ : ∃ m, i + k = m := ⟨_, rfl⟩
          have em : IntKind.i64.wrap ((i : Int) + k) = (m : Int) := by rw [IntWalk.i64_in _ (by omega)]; omega
          have hm5 : (m : Int) < 5 := by omega
          have hm0 : (0 : Int) ≤ m := by omega
          rw [hm] at HSp HSc
          have c3 := cell_us F1.out.p m (by rw [hpl]; omega)
          have f3 := frozen_row F1.out.p m
          have hpp := hpv m
          clear hpv hpl hm
          generalize (pI n r i (pO n r i) k).2 = c at *
          obtain ⟨pk, hpk⟩ : ∃ pk, (pI n r i (pO n r i) k).1.getD m 0 = pk := ⟨_, rfl⟩
          rw [hpk] at HSp HSc c3 hpp
          generalize n.get i = x at *
          generalize r.get k = y at *
          clear hpk
          have M1 : ∀ w, Calls Try.prog 103 #[.int .u64 (x : Int), .int .u64 (y : Int)] w fun e w' => e = .returned (.tuple #[.int .u64 ((x * y / 18446744073709551616 : Nat) : Int), .int .u64 ((x * y % 18446744073709551616 : Nat) : Int)]) ∧ w' = w := fun w => Mul64_any x y hxx hyy w
          have A1 : ∀ w, (callFunc 102 #[.int .u64 ((x * y % 18446744073709551616 : Nat) : Int), .int .u64 (c : Int), .int .u64 0]).run Try.prog w = .ok (.value (.tuple #[.int .u64 ((kLo x y c : Nat) : Int), .int .u64 (((x * y % 18446744073709551616 + c) / 18446744073709551616 : Nat) : Int)])) w := fun w => add64_run _ c 0 (by omega) w
          have A2 : ∀ w, (callFunc 102 #[.int .u64 (pk : Int), .int .u64 ((kLo x y c : Nat) : Int), .int .u64 0]).run Try.prog w = .ok (.value (.tuple #[.int .u64 ((kP x y pk c : Nat) : Int), .int .u64 (((pk + kLo x y c) / 18446744073709551616 : Nat) : Int)])) w := fun w => add64_run pk _ 0 (by omega) w
          have e5 : IntKind.u64.wrap (((x * y / 18446744073709551616 : Nat) : Int) + (((x * y % 18446744073709551616 + c) / 18446744073709551616 : Nat) : Int)) = ((kHi x y c : Nat) : Int) := by rw [nat_add', u64_mod]; rfl
          have e6 : IntKind.u64.wrap (((kHi x y c : Nat) : Int) + (((pk + kLo x y c) / 18446744073709551616 : Nat) : Int)) = ((kC x y pk c : Nat) : Int) := by rw [nat_add', u64_mod]; rfl
          generalize kP x y pk c = pv at *
          generalize kC x y pk c = cv at *
          generalize (pk + kLo x y c) / 18446744073709551616 = q2 at *
          generalize kHi x y c = hi1 at *
          generalize kLo x y c = lo1 at *
          generalize (x * y % 18446744073709551616 + c) / 18446744073709551616 = q1 at *
          generalize x * y % 18446744073709551616 = lo0 at *
          generalize x * y / 18446744073709551616 = hi0 at *
          clear hxx hyy hpp hcc
          go_wp2_with fail
          refine wp_region_still_drew (by kernel_rfl) (by kernel_rfl) ?_
          repeat (first | still_step | still_call (M1 _))
          refine wpStill_nil ?_
          go_wp2_with fail
          refine ⟨⟨k + 1, by omega, by go_num, by rw [HSc.out], ?_⟩, by simp [intOf]; omega⟩
          rw [HSp.out]
          exact (F1.out.set m pv).keep (Fr.refl _ _).drew
        · have hk2e : k = 2 := by omega
          subst hk2e
          have HSO : Hid (pO n r (i + 1) = (pI n r i (pO n r i) 2).1.set (i + 2) (((pI n r i (pO n r i) 2).1.getD (i + 2) 0 + (pI n r i (pO n r i) 2).2) % 18446744073709551616)) := rfl
          obtain ⟨⟨hpl, hpv⟩, hcc⟩ := pI_ok n r i _ (pO_ok n r i) 2
          obtain ⟨m, hm⟩ : ∃ m, i + 2 = m := ⟨_, rfl⟩
          have em : IntKind.i64.wrap ((i : Int) + 2) = (m : Int) := by rw [IntWalk.i64_in _ (by omega)]; omega
          have hm5 : (m : Int) < 5 := by omega
          have hm0 : (0 : Int) ≤ m := by omega
          rw [hm] at HSO
          have c3 := cell_us F1.out.p m (by rw [hpl]; omega)
          have f3 := frozen_row F1.out.p m
          clear hpl hm hpv
          generalize (pI n r i (pO n r i) 2).2 = c at *
          obtain ⟨pk, hpk⟩ : ∃ pk, (pI n r i (pO n r i) 2).1.getD m 0 = pk := ⟨_, rfl⟩
          rw [hpk] at HSO c3
          clear hpk
          have e6 : IntKind.u64.wrap ((pk : Int) + c) = (((pk + c) % 18446744073709551616 : Nat) : Int) := by rw [nat_add', u64_mod]
          generalize (pk + c) % 18446744073709551616 = pv at *
          clear hcc
          go_wp2_with fail
          refine ⟨⟨i + 1, by omega, by go_num, ?_⟩, by simp [intOf]; omega⟩
          rw [HSO.out]
          exact F1.out.set m pv
    · have hi3 : i = 3 := by omega
      subst hi3
      obtain ⟨hpl, hpv⟩ := pO_ok n r 3
      have HPL := pLow_ok (pO_ok n r 3)
      have HPH := pHigh_ok (pO_ok n r 3)
      have c0 := cell_us F0.out.p 0 (by rw [hpl]; omega)
      have c1 := cell_us F0.out.p 1 (by rw [hpl]; omega)
      have c2 := cell_us F0.out.p 2 (by rw [hpl]; omega)
      have c3 := cell_us F0.out.p 3 (by rw [hpl]; omega)
      have c4 := cell_us F0.out.p 4 (by rw [hpl]; omega)
      have lb := lt_of_heap F0.out.p
      obtain ⟨p0, hp0⟩ : ∃ x, (pO n r 3).getD 0 0 = x := ⟨_, rfl⟩
      obtain ⟨p1, hp1⟩ : ∃ x, (pO n r 3).getD 1 0 = x := ⟨_, rfl⟩
      obtain ⟨p2, hp2⟩ : ∃ x, (pO n r 3).getD 2 0 = x := ⟨_, rfl⟩
      obtain ⟨p3, hp3⟩ : ∃ x, (pO n r 3).getD 3 0 = x := ⟨_, rfl⟩
      obtain ⟨p4, hp4⟩ : ∃ x, (pO n r 3).getD 4 0 = x := ⟨_, rfl⟩
      obtain ⟨z3, y2, z4, y3, s3, d2, o3, s4, d3, o4, d4, b0⟩ := pHigh_words _ (pO_ok n r 3)
      obtain ⟨l0, hl0⟩ : ∃ x, (pLow (pO n r 3)).c = x := ⟨_, rfl⟩
      obtain ⟨h0, hh0⟩ : ∃ x, (pHigh (pO n r 3)).a = x := ⟨_, rfl⟩
      obtain ⟨h1, hh1⟩ : ∃ x, (pHigh (pO n r 3)).b = x := ⟨_, rfl⟩
      obtain ⟨h2, hh2⟩ : ∃ x, (pHigh (pO n r 3)).c = x := ⟨_, rfl⟩
      have HLW : Hid (pLow (pO n r 3) = ⟨p0, p1, l0⟩) := by show _ = _; rw [← hp0, ← hp1, ← hl0]; rfl
      have HHI : Hid (pHigh (pO n r 3) = ⟨h0, h1, h2⟩) := by show _ = _; rw [← hh0, ← hh1, ← hh2]
      rw [hp0] at c0
      rw [hp1] at c1
      rw [hp2] at c2 d2 b0
      rw [hp3] at c3 s3 d3
      rw [hp4] at c4 s4 d4
      rw [hl0] at b0
      rw [hh0] at o3
      rw [hh1] at o4
      rw [hh2] at d4
      rw [HLW.out] at HPL
      rw [HHI.out] at HPH
      have HLO := _root_.Go.Lib.hid HPL
      have HHO := _root_.Go.Lib.hid HPH
      clear HPL HPH hpl hpv hp0 hp1 hp2 hp3 hp4 hl0 hh0 hh1 hh2
      have k2 : ∀ o : Obj, (wr.alloc o).cell? ⟨w.heap.size + 1 + 1 + 1, 2, none⟩ = some (.int .u64 (p2 : Int)) := fun o => ((Fr.refl (fun _ => False) wr).alloc o).cell (p := ⟨w.heap.size + 1 + 1 + 1, 2, none⟩) lb id |>.trans c2
      have k3 : ∀ o : Obj, (wr.alloc o).cell? ⟨w.heap.size + 1 + 1 + 1, 3, none⟩ = some (.int .u64 (p3 : Int)) := fun o => ((Fr.refl (fun _ => False) wr).alloc o).cell (p := ⟨w.heap.size + 1 + 1 + 1, 3, none⟩) lb id |>.trans c3
      have k4 : ∀ o : Obj, (wr.alloc o).cell? ⟨w.heap.size + 1 + 1 + 1, 4, none⟩ = some (.int .u64 (p4 : Int)) := fun o => ((Fr.refl (fun _ => False) wr).alloc o).cell (p := ⟨w.heap.size + 1 + 1 + 1, 4, none⟩) lb id |>.trans c4
      clear lb
      go_wp2_with fail
      have Y0 : YI w wr.heap.size n ⟨h0, h1, h2⟩ ⟨p0, p1, l0⟩ ((wr.alloc (.cells #[.int .u64 (p0 : Int), .int .u64 (p1 : Int), .int .u64 (l0 : Int)] 135)).alloc (.cells #[.int .u64 (h0 : Int), .int .u64 (h1 : Int), .int .u64 (h2 : Int)] 135)) := by
        have q : No wr ((wr.alloc (.cells #[.int .u64 (p0 : Int), .int .u64 (p1 : Int), .int .u64 (l0 : Int)] 135)).alloc (.cells #[.int .u64 (h0 : Int), .int .u64 (h1 : Int), .int .u64 (h2 : Int)] 135)) := ((Fr.refl _ _).alloc _).alloc _
        exact ⟨q.heap F0.out.n id, q.heap F0.out.o id, heap_prev _ _ _, heap_last2 _ _ _, F0.out.no.trans q (fun _ _ a => a), lt_of_heap F0.out.p⟩
      clear c0 c1 c2 c3 c4 k2 k3 k4 s3 s4 d2 d3 d4 o3 o4 b0
      obtain ⟨m1, hm1⟩ : ∃ m, N3.add ⟨h0, h1, h2⟩ ⟨h0, h1, h2⟩ = m := ⟨_, rfl⟩
      have hmo1 := hm1 ▸ N3.add_ok ⟨h0, h1, h2⟩ ⟨h0, h1, h2⟩
      obtain ⟨a0, a1, a2⟩ := m1
      have A1 : ∀ w, Calls Try.prog 95 #[.agg #[.int .u64 (h0 : Int), .int .u64 (h1 : Int), .int .u64 (h2 : Int)], .agg #[.int .u64 (h0 : Int), .int .u64 (h1 : Int), .int .u64 (h2 : Int)]] w fun e w' => e = .returned (.agg #[.int .u64 (a0 : Int), .int .u64 (a1 : Int), .int .u64 (a2 : Int)]) ∧ No w w' := fun w => by
        have := padd_any ⟨h0, h1, h2⟩ ⟨h0, h1, h2⟩ w HHO.out HHO.out
        rw [hm1] at this; exact this
      obtain ⟨m2, hm2⟩ : ∃ m, N3.add ⟨a0, a1, a2⟩ ⟨h0, h1, h2⟩ = m := ⟨_, rfl⟩
      have hmo2 := hm2 ▸ N3.add_ok ⟨a0, a1, a2⟩ ⟨h0, h1, h2⟩
      obtain ⟨b0, b1, b2⟩ := m2
      have A2 : ∀ w, Calls Try.prog 95 #[.agg #[.int .u64 (a0 : Int), .int .u64 (a1 : Int), .int .u64 (a2 : Int)], .agg #[.int .u64 (h0 : Int), .int .u64 (h1 : Int), .int .u64 (h2 : Int)]] w fun e w' => e = .returned (.agg #[.int .u64 (b0 : Int), .int .u64 (b1 : Int), .int .u64 (b2 : Int)]) ∧ No w w' := fun w => by
        have := padd_any ⟨a0, a1, a2⟩ ⟨h0, h1, h2⟩ w hmo1 HHO.out
        rw [hm2] at this; exact this
      obtain ⟨m3, hm3⟩ : ∃ m, N3.add ⟨b0, b1, b2⟩ ⟨h0, h1, h2⟩ = m := ⟨_, rfl⟩
      have hmo3 := hm3 ▸ N3.add_ok ⟨b0, b1, b2⟩ ⟨h0, h1, h2⟩
      obtain ⟨d0, d1, d2⟩ := m3
      have A3 : ∀ w, Calls Try.prog 95 #[.agg #[.int .u64 (b0 : Int), .int .u64 (b1 : Int), .int .u64 (b2 : Int)], .agg #[.int .u64 (h0 : Int), .int .u64 (h1 : Int), .int .u64 (h2 : Int)]] w fun e w' => e = .returned (.agg #[.int .u64 (d0 : Int), .int .u64 (d1 : Int), .int .u64 (d2 : Int)]) ∧ No w w' := fun w => by
        have := padd_any ⟨b0, b1, b2⟩ ⟨h0, h1, h2⟩ w hmo2 HHO.out
        rw [hm3] at this; exact this
      obtain ⟨m4, hm4⟩ : ∃ m, N3.add ⟨d0, d1, d2⟩ ⟨h0, h1, h2⟩ = m := ⟨_, rfl⟩
      have hmo4 := hm4 ▸ N3.add_ok ⟨d0, d1, d2⟩ ⟨h0, h1, h2⟩
      obtain ⟨e0, e1, e2⟩ := m4
      have A4 : ∀ w, Calls Try.prog 95 #[.agg #[.int .u64 (d0 : Int), .int .u64 (d1 : Int), .int .u64 (d2 : Int)], .agg #[.int .u64 (h0 : Int), .int .u64 (h1 : Int), .int .u64 (h2 : Int)]] w fun e w' => e = .returned (.agg #[.int .u64 (e0 : Int), .int .u64 (e1 : Int), .int .u64 (e2 : Int)]) ∧ No w w' := fun w => by
        have := padd_any ⟨d0, d1, d2⟩ ⟨h0, h1, h2⟩ w hmo3 HHO.out
        rw [hm4] at this; exact this
      have HFV : Hid (N3.five ⟨h0, h1, h2⟩ = ⟨e0, e1, e2⟩) := by show _ = _; unfold N3.five; rw [hm1, hm2, hm3, hm4]
      have HFO := _root_.Go.Lib.hid hmo4
      clear hm1 hm2 hm3 hm4 hmo1 hmo2 hmo3 hmo4
      obtain ⟨sm, hsm⟩ : ∃ m, N3.add ⟨p0, p1, l0⟩ ⟨e0, e1, e2⟩ = m := ⟨_, rfl⟩
      have hso := hsm ▸ N3.add_ok ⟨p0, p1, l0⟩ ⟨e0, e1, e2⟩
      obtain ⟨slo, hslo⟩ : ∃ m, sm.lo = m := ⟨_, rfl⟩
      obtain ⟨shi, hshi⟩ : ∃ m, sm.hi = m := ⟨_, rfl⟩
      have hloo := hslo ▸ N3.lo_ok hso
      have hhio := hshi ▸ N3.hi_ok hso
      obtain ⟨sr, hsr⟩ : ∃ m, slo.add shi = m := ⟨_, rfl⟩
      have HT : Hid (n.times r = sr) := by show _ = _; unfold N3.times; rw [HLW.out, HHI.out, HFV.out, hsm]; unfold N3.red; rw [hslo, hshi, hsr]
      obtain ⟨s0, s1, s2⟩ := sm
      obtain ⟨a0, a1, a2⟩ := slo
      obtain ⟨g0, g1, g2⟩ := shi
      obtain ⟨t0, t1, t2⟩ := sr
      have B1 : ∀ w, Calls Try.prog 95 #[.agg #[.int .u64 (p0 : Int), .int .u64 (p1 : Int), .int .u64 (l0 : Int)], .agg #[.int .u64 (e0 : Int), .int .u64 (e1 : Int), .int .u64 (e2 : Int)]] w fun e w' => e = .returned (.agg #[.int .u64 (s0 : Int), .int .u64 (s1 : Int), .int .u64 (s2 : Int)]) ∧ No w w' := fun w => by
        have := padd_any ⟨p0, p1, l0⟩ ⟨e0, e1, e2⟩ w HLO.out HFO.out
        rw [hsm] at this; exact this
      have B2 : ∀ w, Calls Try.prog 104 #[.agg #[.int .u64 (s0 : Int), .int .u64 (s1 : Int), .int .u64 (s2 : Int)]] w fun e w' => e = .returned (.tuple #[.agg #[.int .u64 (a0 : Int), .int .u64 (a1 : Int), .int .u64 (a2 : Int)], .agg #[.int .u64 (g0 : Int), .int .u64 (g1 : Int), .int .u64 (g2 : Int)]]) ∧ No w w' := fun w => by
        have := plow_any ⟨s0, s1, s2⟩ w hso
        rw [hslo, hshi] at this; exact this
      have B3 : ∀ w, Calls Try.prog 95 #[.agg #[.int .u64 (a0 : Int), .int .u64 (a1 : Int), .int .u64 (a2 : Int)], .agg #[.int .u64 (g0 : Int), .int .u64 (g1 : Int), .int .u64 (g2 : Int)]] w fun e w' => e = .returned (.agg #[.int .u64 (t0 : Int), .int .u64 (t1 : Int), .int .u64 (t2 : Int)]) ∧ No w w' := fun w => by
        have := padd_any ⟨a0, a1, a2⟩ ⟨g0, g1, g2⟩ w hloo hhio
        rw [hsr] at this; exact this
      clear hsm hso hslo hshi hloo hhio hsr
      generalize ((wr.alloc (.cells #[.int .u64 (p0 : Int), .int .u64 (p1 : Int), .int .u64 (l0 : Int)] 135)).alloc (.cells #[.int .u64 (h0 : Int), .int .u64 (h1 : Int), .int .u64 (h2 : Int)] 135)) = wy at *
      have YA := Y0.all
      obtain ⟨y0, y1, y2, _⟩ := YA
      go_region_held3 (fun w' => w'.cell? ⟨wr.heap.size + 1, 0, none⟩ = some (.int .u64 (h0 : Int)) ∧ w'.cell? ⟨wr.heap.size + 1, 1, none⟩ = some (.int .u64 (h1 : Int)) ∧ w'.cell? ⟨wr.heap.size + 1, 2, none⟩ = some (.int .u64 (h2 : Int)) ∧ YI w wr.heap.size n ⟨h0, h1, h2⟩ ⟨p0, p1, l0⟩ w')
        (first
          | exact YI.all Yn
          | exact YI.all (YI.keep Yn ((Fr.refl _ _).alloc _))
          | exact YI.all (YI.keep (YI.keep Y0 (Fr.refl _ _).drew) ((Fr.refl _ _).alloc _))
          | exact YI.all (YI.keep Y0 (Fr.refl _ _).drew)
          | exact YI.all Y0
          | exact YI.all (YI.set3 Yn Gl)
          | exact YI.all (YI.set3 (Yn.keep ((Fr.refl _ _).alloc _)) (lt_of_heap Yn.h)))
        (first
          | (have hmark := M3; clear hmark; go_at_call 95; refine (A4 _).mono ?_; rintro e w' ⟨rfl, hnn⟩; (first | (have Gn := hnn.heap (heap_alloc_new _ _) id; have Gl := lt_of_heap Yn.h) | (have Gn := hnn.heap Gn id) | skip); have Yn := YI.keep (by first | exact Yn | exact Yn.keep ((Fr.refl _ _).alloc _)) hnn; have M4 := trivial; (first | (have Gc0 := cell_of_row _ _ 0 _ _ _ Gn; have Gc1 := cell_of_row _ _ 1 _ _ _ Gn; have Gc2 := cell_of_row _ _ 2 _ _ _ Gn; have Gf0 := frozen_row Gn 0; have Gf1 := frozen_row Gn 1; have Gf2 := frozen_row Gn 2) | skip))
          | (have hmark := M2; clear hmark; go_at_call 95; refine (A3 _).mono ?_; rintro e w' ⟨rfl, hnn⟩; (first | (have Gn := hnn.heap (heap_alloc_new _ _) id; have Gl := lt_of_heap Yn.h) | (have Gn := hnn.heap Gn id) | skip); have Yn := YI.keep (by first | exact Yn | exact Yn.keep ((Fr.refl _ _).alloc _)) hnn; have M3 := trivial)
          | (have hmark := M1; clear hmark; go_at_call 95; refine (A2 _).mono ?_; rintro e w' ⟨rfl, hnn⟩; (first | (have Gn := hnn.heap (heap_alloc_new _ _) id; have Gl := lt_of_heap Yn.h) | (have Gn := hnn.heap Gn id) | skip); have Yn := YI.keep (by first | exact Yn | exact Yn.keep ((Fr.refl _ _).alloc _)) hnn; have M2 := trivial)
          | (go_at_call 95; refine (A1 _).mono ?_; rintro e w' ⟨rfl, hnn⟩; (first | (have Gn := hnn.heap (heap_alloc_new _ _) id; have Gl := lt_of_heap (YI.keep Y0 (Fr.refl _ _).drew).h) | (have Gn := hnn.heap Gn id) | skip); have Yn := YI.keep (by first | exact YI.keep Y0 (Fr.refl _ _).drew | exact YI.keep (YI.keep Y0 (Fr.refl _ _).drew) ((Fr.refl _ _).alloc _)) hnn; have M1 := trivial))
      all_goals
        rename_i hH
        obtain ⟨_, _, _, Z⟩ := hH
        first
          | have Zb := row3 Gn (.int .u64 (e0 : Int)) (.int .u64 (e1 : Int)) (.int .u64 (e2 : Int))
          | have Zb := heap_alloc_new w' (.cells #[.int .u64 (e0 : Int), .int .u64 (e1 : Int), .int .u64 (e2 : Int)] 135)
        have ZZ := _root_.Go.Lib.hid Z
        have ZB := _root_.Go.Lib.hid Zb
        clear Z Zb
        go_wp2_with (first
          | (refine wpList_load_row rfl 135 (.tmp 12) rfl _ rfl _ _ _ _ ZZ.out.l Try.underlying135 rfl (by kernel_rfl) ?_)
          | (refine wpList_load_row rfl 135 (.tmp 14) rfl _ rfl _ _ _ _ ZB.out Try.underlying135 rfl (by kernel_rfl) ?_)
          | (have hmk := PQ5; clear hmk; go_at_call 95; refine (B3 _).mono ?_; rintro e w10 ⟨rfl, hn⟩; have P6 : Hid (w10.heap[w.heap.size + 1 + 1]? = _) := hn.heap PQ5.out.2.1 id; have P7 : Hid (No w w10) := PQ5.out.2.2.2.trans hn (fun _ _ a => a); clear hn)
          | (go_at_call 95; refine (B1 _).mono ?_; rintro e w6 ⟨rfl, hn⟩; have Z6 := _root_.Go.Lib.hid (ZZ.out.keep hn); clear hn)
          | (go_at_call 104; refine (B2 _).mono ?_; rintro e w7 ⟨rfl, hn⟩; have Z7 := _root_.Go.Lib.hid (Z6.out.keep hn); clear hn)
          | (refine wpList_store_row' rfl 135 (.tmp 2) (.tmp 107) rfl _ _ rfl rfl _ _ (Z7.out.keep ((Fr.refl _ _).alloc _)).n (by kernel_rfl) (by kernel_rfl) (by simp [Value.oneCell']) ?_; intro w8 a1 a2 a3 a4; have P4 : Hid (w8.heap[w.heap.size]? = _ ∧ w8.heap[w.heap.size + 1 + 1]? = _ ∧ w8.heap[w7.heap.size]? = _ ∧ No w w8) := ⟨a1, (a2 _ (by omega)).trans (Z7.out.keep ((Fr.refl _ _).alloc _)).o, (a2 _ (by have := lt_of_heap Z7.out.n; omega)).trans (heap_alloc_new _ _), (Z7.out.no.alloc _).trans a4 (fun j hj e => by omega)⟩; clear a1 a2 a3 a4)
          | (refine wpList_store_row' rfl 135 (.tmp 15) (.tmp 108) rfl _ _ rfl rfl _ _ P4.out.2.2.1 (by kernel_rfl) (by kernel_rfl) (by simp [Value.oneCell']) ?_; intro w9 a1 a2 a3 a4; have PQ5 : Hid (w9.heap[w.heap.size]? = _ ∧ w9.heap[w.heap.size + 1 + 1]? = _ ∧ w9.heap[w7.heap.size]? = _ ∧ No w w9) := ⟨(a2 _ (by have := lt_of_heap Z7.out.n; omega)).trans P4.out.1, (a2 _ (by have := lt_of_heap Z7.out.o; omega)).trans P4.out.2.1, a1, P4.out.2.2.2.trans a4 (fun j hj e => by have := Z7.out.no.size; omega)⟩; clear a1 a2 a3 a4)
          | (refine wpList_load_row rfl 135 (.tmp 2) rfl _ rfl _ _ _ _ PQ5.out.1 Try.underlying135 rfl (by kernel_rfl) ?_)
          | (refine wpList_load_row rfl 135 (.tmp 15) rfl _ rfl _ _ _ _ PQ5.out.2.2.1 Try.underlying135 rfl (by kernel_rfl) ?_)
          | (refine wpList_store_row' rfl 135 (.tmp 4) (.tmp 111) rfl _ _ rfl rfl _ _ P6.out (by kernel_rfl) (by kernel_rfl) (by simp [Value.oneCell']) ?_; intro w11 a1 a2 a3 a4; have D1 := _root_.Go.Lib.hid a1; have D2 : Hid (No w w11) := P7.out.trans a4 (fun j hj e => by omega); clear a1 a2 a3 a4))
        refine bodyPost_cell rfl (w.heap.size + 1 + 1) 135 _ (0, 0) _ rfl D1.out Try.underlying135 rfl (by kernel_rfl) rfl ⟨by rw [HT.out]; rfl, D2.out⟩
end Go.Proofs.Ytbdkicmdidcdcaa
namespace Go.Proofs.Ytbdkicmdidcdcaa
open Go.RowKit

/-- The sixteen bytes at the front, a 1, noughts. -/
def pfront (b : List UInt8) : List UInt8 := b.take 16 ++ 1 :: List.replicate (16 - b.length) 0
theorem pfront_length (b : List UInt8) : (pfront b).length = 17 := by simp [pfront]; omega
def pclamp (n : N3) : N3 := ⟨n.a &&& 1152921487695413247, n.b &&& 1152921487695413244, n.c⟩
theorem pclamp_ok {n : N3} (h : n.Ok) : (pclamp n).Ok := ⟨Nat.lt_of_le_of_lt Nat.and_le_left h.a, Nat.lt_of_le_of_lt Nat.and_le_left h.b, h.c⟩
/-- One turn. -/
def pstep (r acc : N3) (b : List UInt8) : N3 := (acc.add (rdN (pfront b) ((pfront b).getD 16 0).toNat 16)).times r
theorem pstep_ok (r acc : N3) (b : List UInt8) : (pstep r acc b).Ok := N3.times_ok _ _
/-- j turns. -/
def pacc (r : N3) (b : List UInt8) : Nat → N3
  | 0 => ⟨0, 0, 0⟩
  | j + 1 => pstep r (pacc r b j) (b.drop (16 * j))
theorem pacc_ok (r : N3) (b : List UInt8) : ∀ j, (pacc r b j).Ok
  | 0 => ⟨by show 0 < _; omega, by show 0 < _; omega, by show 0 < _; omega⟩
  | j + 1 => pstep_ok _ _ _
def pkey (key : List UInt8) : N3 := pclamp (rdN (key.take 16) 0 16)
def pend (key b : List UInt8) : N3 := (pacc (pkey key) b ((b.length + 15) / 16)).less.add (rdN (key.drop 16) 0 16)
theorem pend_ok (key b : List UInt8) : (pend key b).Ok := N3.add_ok _ _
def ptag (key b : List UInt8) : List UInt8 := (List.range 16).map fun i => UInt8.ofNat ((pend key b).get (i / 8) / 2 ^ (8 * (i % 8)))
theorem ptag_length (key b : List UInt8) : (ptag key b).length = 16 := by simp [ptag]
/-- RFC 8439's example (2.5.2). -/
def kT : List UInt8 := [0x85, 0xd6, 0xbe, 0x78, 0x57, 0x55, 0x6d, 0x33, 0x7f, 0x44, 0x52, 0xfe, 0x42, 0xd5, 0x06, 0xa8, 0x01, 0x03, 0x80, 0x8a, 0xfb, 0x0d, 0xb2, 0xfd, 0x4a, 0xbf, 0xf6, 0xaf, 0x41, 0x49, 0xf5, 0x1b]
def mT : List UInt8 := [67, 114, 121, 112, 116, 111, 103, 114, 97, 112, 104, 105, 99, 32, 70, 111, 114, 117, 109, 32, 82, 101, 115, 101, 97, 114, 99, 104, 32, 71, 114, 111, 117, 112]
set_option maxRecDepth 100000 in
theorem ptag_rfc : (ptag kT mT).getD 0 0 = 0xa8 ∧ (ptag kT mT).getD 15 0 = 0xa9 := by decide +kernel
end Go.Proofs.Ytbdkicmdidcdcaa
