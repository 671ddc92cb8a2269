/-
  pad: Size, Pad. pad: Unpad. record: what it is; May, Put, beside. record: Get.
-/
import Derived.Test.YtbdkicmdidcdcaaZQO
import Derived.Test.YtbdkicmdidcdcaaZJ
import Derived.Test.YtbdkicmdidcdcaaZQ
import Derived.Laws.BitsAllLaws
import Derived.Test.YtbdkicmdidcdcaaZK
import Derived.Test.YtbdkicmdidcdcaaZL
namespace Go.Proofs.Ytbdkicmdidcdcaa
open Go.RowKit

section
variable {P : Program} {n : Nat} {Q : Post} {ρ : Env} {w : World} {ops : Array Oper} {rest : List Oper} {d : Nat} {T : TypeId} {p : String} {af : Array Edge} {gd : Option (Nat × Bool)}
variable {S : Nat → Prop} {w0 : World} {L M : List Res}
/-- An array put together. -/
theorem q_buildArr {t m e : Nat} {z : List Value} {parts : Array (Nat × Operand)} (l : List Value) [ha : ArrOf P t m e 1] [hz : ZeroOf P t z] (h : LW P n ops Q rest (upd ρ d (.agg l.toArray)) w)
    (hf : Instr.fill (fun i => some (i * 1, 1)) z.toArray (parts.toList.map fun (i, x) => (i, ev ρ x)) = some l.toArray := by rfl) (hd : Nat.blt d n = true := by rfl) (hw : Wanted ops ρ gd := by first | exact .none | exact .some ⟨_, rfl, rfl⟩) :
    LW P n ops Q (⟨some d, .build t parts, T, p, af, gd⟩ :: rest) ρ w :=
  lw_value hw hd (w' := w) (by
    have hp : (parts.map fun (x : Nat × Operand) => (x.1, ev ρ x.2)).toList = parts.toList.map fun (i, x) => (i, ev ρ x) := by simp
    have hb := built_arr (P := P) (t := t) (z := z) (l := l) hf
    rw [← hp] at hb
    have := run_build (P := P) w t _ _ hb
    simp only [execOp, Sem.run_bind, this, Result.andThen_ok, Sem.run_pure]) h
/-- A piece of a slice, from i on. -/
theorem q_slFrom {t e k b : Nat} {z : List Value} {x lo : Operand} {ik : IntKind} {g off m cap : Nat} (i : Nat) [hs : SlOf P t e z k b] (h : LW P n ops Q rest (upd ρ d (.slice (some ⟨g, off + i * k, none⟩) (m - i) (cap - i))) w)
    (hx : ev ρ x = .slice (some ⟨g, off, none⟩) m cap := by rfl) (hlo : ev ρ lo = .int ik i := by rfl) (him : i ≤ m := by omega) (hmc : m ≤ cap := by omega) (hic : i < cap := by omega) (hd : Nat.blt d n = true := by rfl) (hw : Wanted ops ρ gd := by first | exact .none | exact .some ⟨_, rfl, rfl⟩) :
    LW P n ops Q (⟨some d, .slice t x (some lo) none none, T, p, af, gd⟩ :: rest) ρ w := by
  have hi' := hs.info
  have hsz : (P.info? e).map (·.size) = some k := by
    cases hq : P.info? e with
    | none => simp [hq] at hi'
    | some i => simp [hq] at hi'; simp [hi']
  have hb : ∀ w, (Instr.sliceBounds true m cap (some (.int ik i)) none none).run P w = .ok (i, m, cap) w := fun w => by
    unfold Instr.sliceBounds
    have a3 : ¬ cap < m := by omega
    have a4 : ¬ m < i := by omega
    simp [Instr.sliceBound, asIntOf, him]
  have hc : ¬ cap = i := by omega
  refine lw_value hw hd (w' := w) ?_ h
  simp only [execOp, hx, Option.map_some, Option.map_none, hlo]
  unfold Instr.sliceAt
  simp only [Sem.run_bind, run_underlying hs.und, Result.andThen_ok]
  unfold Instr.slice
  simp only [Sem.run_bind, run_underlying hs.und, Result.andThen_ok, hb, run_sizeOf_of hsz, Sem.run_pure, Option.map_some, addr_add, hc, if_false]
end
theorem cby (i : Nat) : IntKind.u8.wrap (i : Int) = by8 (UInt8.ofNat i) := by
  rw [IntKind.wrap_u8']
  unfold by8
  rw [UInt8.toNat_ofNat']
  simp
/-- How many bytes so many become. -/
def psize (n : Int) : Int := if n < 0 then 0 else if n ≤ 30 then 32 else if n ≤ 126 then 128 else if n ≤ 510 then 512 else if n ≤ 2046 then 2048 else 0
theorem psize_cases (n : Nat) : (psize n = 0 ∧ 2046 < n) ∨ ∃ sz : Nat, psize n = sz ∧ n + 2 ≤ sz ∧ sz ≤ 2048 ∧ 32 ≤ sz := by
  unfold psize
  rw [if_neg (by omega)]
  by_cases h1 : (n : Int) ≤ 30
  · rw [if_pos h1]; exact .inr ⟨32, rfl, by omega, by omega, by omega⟩
  rw [if_neg h1]
  by_cases h2 : (n : Int) ≤ 126
  · rw [if_pos h2]; exact .inr ⟨128, rfl, by omega, by omega, by omega⟩
  rw [if_neg h2]
  by_cases h3 : (n : Int) ≤ 510
  · rw [if_pos h3]; exact .inr ⟨512, rfl, by omega, by omega, by omega⟩
  rw [if_neg h3]
  by_cases h4 : (n : Int) ≤ 2046
  · rw [if_pos h4]; exact .inr ⟨2048, rfl, by omega, by omega, by omega⟩
  rw [if_neg h4]
  exact .inl ⟨rfl, by omega⟩
set_option maxRecDepth 100000 in
set_option maxHeartbeats 1000000 in
theorem Size_any (n : Int) (w : World) : Calls Try.prog 20 #[.int .i64 n] w fun e w' => e = .returned (.int .i64 (psize n)) ∧ No w w' := by
  have H := St.nil (fun _ => False) w
  refine q_enter Try.func20 rfl rfl ?_
  by_cases h0 : n < 0
  · refine go_R H ?_; clear H; intro w H
    exact ret1 rfl rv_tmp ⟨by unfold psize; rw [if_pos h0], H.fr⟩
  by_cases h1 : n ≤ 30
  · refine go_R H ?_; clear H; intro w H
    refine q_buildArr [.int .i64 32, .int .i64 128, .int .i64 512, .int .i64 2048] ?_
    refine go_R H ?_; clear H; intro w H
    refine q_rounds 5 ?_
    refine go_R H ?_; clear H; intro w H
    refine ret1 rfl rv_tmp ⟨?_, H.fr⟩
    unfold psize
    simp [*]
  by_cases h2 : n ≤ 126
  · refine go_R H ?_; clear H; intro w H
    refine q_buildArr [.int .i64 32, .int .i64 128, .int .i64 512, .int .i64 2048] ?_
    refine go_R H ?_; clear H; intro w H
    refine q_rounds 5 ?_
    refine go_R H ?_; clear H; intro w H
    refine ret1 rfl rv_tmp ⟨?_, H.fr⟩
    unfold psize
    simp [*]
  by_cases h3 : n ≤ 510
  · refine go_R H ?_; clear H; intro w H
    refine q_buildArr [.int .i64 32, .int .i64 128, .int .i64 512, .int .i64 2048] ?_
    refine go_R H ?_; clear H; intro w H
    refine q_rounds 5 ?_
    refine go_R H ?_; clear H; intro w H
    refine ret1 rfl rv_tmp ⟨?_, H.fr⟩
    unfold psize
    simp [*]
  by_cases h4 : n ≤ 2046
  · refine go_R H ?_; clear H; intro w H
    refine q_buildArr [.int .i64 32, .int .i64 128, .int .i64 512, .int .i64 2048] ?_
    refine go_R H ?_; clear H; intro w H
    refine q_rounds 5 ?_
    refine go_R H ?_; clear H; intro w H
    refine ret1 rfl rv_tmp ⟨?_, H.fr⟩
    unfold psize
    simp [*]
  · refine go_R H ?_; clear H; intro w H
    refine q_buildArr [.int .i64 32, .int .i64 128, .int .i64 512, .int .i64 2048] ?_
    refine go_R H ?_; clear H; intro w H
    refine q_rounds 5 ?_
    refine go_R H ?_; clear H; intro w H
    refine ret1 rfl rv_tmp ⟨?_, H.fr⟩
    unfold psize
    simp [*]
/-- What so many bytes become. -/
def padB (sz : Nat) (b : List UInt8) : List UInt8 := [UInt8.ofNat (b.length / 256), UInt8.ofNat b.length] ++ b ++ List.replicate (sz - b.length - 2) 0
theorem padB_length (sz : Nat) (b : List UInt8) (h : b.length + 2 ≤ sz) : (padB sz b).length = sz := by unfold padB; simp; omega
theorem padB_over (sz : Nat) (b : List UInt8) (x y : UInt8) (h : b.length + 2 ≤ sz) : over (((List.replicate sz 0).set 0 x).set 1 y) (0 + 2 * 1) (sz - 2) b = [x, y] ++ b ++ List.replicate (sz - b.length - 2) 0 := by
  obtain ⟨k, rfl⟩ : ∃ k, sz = k + 1 + 1 := ⟨sz - 2, by omega⟩
  unfold over
  rw [List.replicate_succ, List.replicate_succ]
  simp only [List.set_cons_zero, List.set_cons_succ]
  have e1 : min b.length (k + 1 + 1 - 2) = b.length := by omega
  rw [e1, List.take_of_length_le (l := b) (by omega)]
  have e2 : (x :: y :: List.replicate k (0 : UInt8)).take (0 + 2 * 1) = [x, y] := rfl
  have e3 : 0 + 2 * 1 + b.length = b.length + 1 + 1 := by omega
  rw [e2, e3, List.drop_succ_cons, List.drop_succ_cons, List.drop_replicate]
  have e4 : k - b.length = k + 1 + 1 - b.length - 2 := by omega
  rw [e4]
def PadTo (b : List UInt8) (u : Value) (L : List Res) : Prop :=
  (psize b.length = 0 ∧ u = .tuple #[.slice none 0 0, .int .i64 13] ∧ L = []) ∨
  ∃ (sz : Nat) (v' : Value), psize b.length = sz ∧ b.length + 2 ≤ sz ∧ sz ≤ 2048 ∧ 32 ≤ sz ∧ u = .tuple #[v', .int .i64 0] ∧ (∃ a, v' = .slice (some a) sz sz) ∧ L = [bsl v' (padB sz b)]
set_option maxRecDepth 100000 in
set_option maxHeartbeats 2000000 in
theorem Pad_any (v : Value) (b : List UInt8) (W : World) (hv : RB W v b) (_hb : b.length ≤ 100000) : Tri Try.prog 18 [v] [] W (PadTo b) := by
  refine Tri.pure fun H => ?_
  obtain ⟨va, vc, rfl⟩ := hv.val
  have SZ := fun w => Size_any b.length w
  rcases psize_cases b.length with ⟨h0, h1⟩ | ⟨sz, h0, h1, h2, h3⟩
  · rw [h0] at SZ
    refine q_enter Try.func18 rfl rfl ?_
    refine go_R H ?_; clear H; intro w H
    refine q_call (SZ _) ?_; rintro _ w1 ⟨rfl, hNo⟩; replace H := H.no hNo; clear hNo; refine ⟨_, rfl, ?_⟩
    refine go_R H ?_; clear H; intro w H
    exact ret2 rfl rv_tmp rv_tmp ⟨_, _, rfl, .inl ⟨h0, rfl, rfl⟩, H⟩
  · rw [h0] at SZ
    refine q_enter Try.func18 rfl rfl ?_
    refine go_R H ?_; clear H; intro w H
    refine q_call (SZ _) ?_; rintro _ w1 ⟨rfl, hNo⟩; replace H := H.no hNo; clear hNo; refine ⟨_, rfl, ?_⟩
    refine go_R H ?_; clear H; intro w H
    refine q_call (SZ _) ?_; rintro _ w1 ⟨rfl, hNo⟩; replace H := H.no hNo; clear hNo; refine ⟨_, rfl, ?_⟩
    refine q_makeB (m := sz) H ?_; clear H; intro g w H
    refine go_R H ?_; clear H; intro w H
    refine q_conv ?_ (pby _ 8)
    refine go_R H ?_; clear H; intro w H
    refine q_conv ?_ (cby _)
    refine go_R H ?_; clear H; intro w H
    refine q_slFrom 2 ?_
    refine go_R H ?_; clear H; intro w H
    refine q_copyB (off := 0 + 2 * 1) (m := sz - 2) H (hv.no H.fr) ?_ (hf := by simp; omega); clear H; intro w H
    rw [padB_over sz b _ _ h1] at H
    refine go_R H ?_; clear H; intro w H
    refine ret2 rfl rv_tmp rv_tmp ⟨_, _, rfl, .inr ⟨sz, _, h0, h1, h2, h3, rfl, ⟨_, rfl⟩, rfl⟩, ?_⟩
    exact (H.asB sz (padB_length sz b h1) (by omega)).sub (by repeat (first | exact Sub.nil | apply Sub.cons | exact Take.z | apply Take.s))
end Go.Proofs.Ytbdkicmdidcdcaa
namespace Go.Proofs.Ytbdkicmdidcdcaa
open Go.RowKit

theorem x_conv64 {P : Program} {ρ : Env} {w : World} {d : Nat} {T : TypeId} {p : String} {af : Array Edge} {gd : Option (Nat × Bool)} {s t : TypeId} {x : Operand} {k : IntKind} {a : Int} [hs : CellOf P s] [ht : IntOf P t .i64] (hx : ev ρ x = .int k a := by rfl) (h1 : -9223372036854775808 ≤ a := by omega) (h2 : a ≤ 9223372036854775807 := by omega) :
    (execOp (ev ρ) ⟨some d, .convert s t x, T, p, af, gd⟩).run P w = .ok (.value (.int .i64 a)) w := x_conv (IntWalk.i64_in _ ⟨h1, h2⟩) hx
theorem i64_or_nat (a b : Nat) (ha : a < 1000000000000) (hb : b < 1000000000000) : bits .or .i64 (a : Int) (b : Int) = ((a ||| b : Nat) : Int) := by
  have hx : a ||| b < 2 ^ 40 := Nat.or_lt_two_pow (by omega) (by omega)
  show IntKind.i64.wrap ((BitVec.ofInt 64 (a : Int) ||| BitVec.ofInt 64 (b : Int)).toNat : Int) = _
  rw [BitVec.toNat_or, ofInt_u64 a (by omega), ofInt_u64 b (by omega)]
  exact IntWalk.i64_in _ ⟨by omega, by omega⟩
theorem or_byte (x y : UInt8) : bits .or .i64 (by8 x * 256) (by8 y) = ((x.toNat * 256 + y.toNat : Nat) : Int) := by
  have hx := x.toNat_lt
  have hy := y.toNat_lt
  have e : by8 x * 256 = ((x.toNat * 256 : Nat) : Int) := by unfold by8; omega
  have e2 : by8 y = ((y.toNat : Nat) : Int) := rfl
  rw [e, e2, i64_or_nat _ _ (by omega) (by omega)]
  have := Nat.shiftLeft_add_eq_or_of_lt (i := 8) (b := y.toNat) (by omega) x.toNat
  rw [Nat.shiftLeft_eq] at this
  rw [← this]
/-- How many bytes the first two tell. -/
def pn (b : List UInt8) : Nat := (b.getD 0 0).toNat * 256 + (b.getD 1 0).toNat
def punpad (b : List UInt8) : Option (List UInt8) :=
  if b.length < 2 then none else if psize (pn b) ≠ b.length then none else if (b.drop (2 + pn b)).all (· == 0) = true then some ((b.drop 2).take (pn b)) else none
def UnpadTo (o : Option (List UInt8)) (u : Value) (L : List Res) : Prop :=
  (o = none ∧ u = .tuple #[.slice none 0 0, .int .i64 1] ∧ L = []) ∨ ∃ l v', o = some l ∧ u = .tuple #[v', .int .i64 0] ∧ L = [bsl v' l]
theorem psize_le {n m : Nat} (h : psize n = (m : Int)) (hm : 0 < m) : n + 2 ≤ m ∧ m ≤ 2048 := by
  rcases psize_cases n with ⟨h0, _⟩ | ⟨sz, h0, h1, h2, _⟩
  · rw [h0] at h; omega
  · rw [h0] at h; omega
theorem RB.cellAt {w : World} {g off n cap : Nat} {l : List UInt8} (h : RB w (.slice (some ⟨g, off, none⟩) n cap) l) (hn : l.length = n) (j : Nat) (hj : j < n) : w.cell? ⟨g, off + j, none⟩ = some (.int .u8 (by8 (l.getD j 0))) := by
  subst hn
  exact Rd.cellAt h j _ (bs_getD hj)
set_option maxRecDepth 100000 in
set_option maxHeartbeats 2000000 in
theorem Unpad_any (v : Value) (b : List UInt8) (W : World) (hv : RB W v b) (hb : b.length ≤ 100000) : Tri Try.prog 22 [v] [] W (UnpadTo (punpad b)) := by
  refine Tri.pure fun H => ?_
  obtain ⟨va, vc, rfl⟩ := hv.val
  by_cases h2 : b.length < 2
  · refine q_enter Try.func22 rfl rfl ?_
    refine go_R H ?_; clear H; intro w H
    exact ret2 rfl rv_tmp rv_tmp ⟨_, _, rfl, .inl ⟨by unfold punpad; rw [if_pos h2], rfl, rfl⟩, H⟩
  obtain ⟨g, off, rfl⟩ := Rd.some' hv (by omega)
  have x0 := by8_lt (b.getD 0 0)
  have x1 := by8_lt (b.getD 1 0)
  have hor := or_byte (b.getD 0 0) (b.getD 1 0)
  rw [show (b.getD 0 0).toNat * 256 + (b.getD 1 0).toNat = pn b from rfl] at hor
  have hpn : pn b ≤ 65535 := by
    have := (b.getD 0 0).toNat_lt
    have := (b.getD 1 0).toNat_lt
    unfold pn; omega
  have SZ := fun w => Size_any (pn b) w
  have hsh : IntKind.i64.wrap (by8 (b.getD 0 0) * 2 ^ 8) = by8 (b.getD 0 0) * 256 := by
    have e : (2 : Int) ^ 8 = 256 := rfl
    rw [e]
    exact IntWalk.i64_in _ ⟨by omega, by omega⟩
  refine q_enter Try.func22 rfl rfl ?_
  refine go_R H ?_; clear H; intro w H
  replace H := H.drew
  refine r_start (fun w => RB w (.slice (some ⟨g, off, none⟩) b.length vc) b) 11 rfl (hv.no H.fr) ?_
  refine r_takeR 0 ?_; refine r_takeR 5 ?_; refine r_takeR 1 ?_; refine r_takeR 6 ?_
  refine r_take 2 rfl rfl (fun w hS => x_loadC (RB.cellAt hS rfl 0 (by omega)) rfl) ?_
  refine r_take 7 rfl rfl (fun w hS => x_loadC (RB.cellAt hS rfl 1 (by omega)) rfl) ?_
  refine r_take 3 rfl rfl (fun w hS => x_conv64) ?_
  refine r_take 8 rfl rfl (fun w hS => x_conv64) ?_
  refine r_take 4 rfl rfl (fun w hS => x_shlW (k := .i64) (a := by8 (b.getD 0 0)) (b := 8) (c := by8 (b.getD 0 0) * 256) hsh rfl rfl) ?_
  refine r_take 9 rfl rfl (fun w hS => x_int (run_binop_bits (.inr (.inl rfl)) hor) rfl rfl) ?_
  refine r_takeR 10 ?_
  refine r_done ?_
  refine go_R H ?_; clear H; intro w H
  refine q_call (SZ _) ?_; rintro _ w1 ⟨rfl, hNo⟩; replace H := H.no hNo; clear hNo; refine ⟨_, rfl, ?_⟩
  refine go_R H ?_; clear H; intro w H
  by_cases h3 : psize (pn b) = b.length
  rotate_left
  · refine go_R H ?_; clear H; intro w H
    exact ret2 rfl rv_tmp rv_tmp ⟨_, _, rfl, .inl ⟨by unfold punpad; rw [if_neg h2, if_pos h3], rfl, rfl⟩, H⟩
  obtain ⟨h4, h5⟩ := psize_le h3 (by omega)
  refine go_R H ?_; clear H; intro w H
  have hoff : ((2 : Int) + (pn b : Nat)) = ((2 + pn b : Nat) : Int) := by omega
  rw [hoff]
  refine q_fromB (2 + pn b) hv ?_; intro v2 hv2 ho2
  have hr2 := hv2 _ hv
  have hl2 : (b.drop (2 + pn b)).length = b.length - (2 + pn b) := List.length_drop
  generalize hd2 : b.drop (2 + pn b) = b2 at *
  obtain ⟨a2, c2, rfl⟩ := hr2.val
  refine go_R H ?_; clear H; intro w H
  refine q_loop (fun i : Nat => [(0, .slice (some ⟨g, off, none⟩) b.length vc), (4, .int .i64 (pn b)), (28, .slice a2 b2.length c2), (29, .int .i64 b2.length), (30, .int .i64 i)])
    (fun i w => St (fun _ => False) W [] w ∧ i ≤ b2.length ∧ ∀ j, j < i → b2.getD j 0 = 0) (fun i => b2.length - i) 0 (by exact ⟨rfl, rfl, rfl, rfl, rfl, trivial⟩) ⟨H, by omega, fun j hj => by omega⟩ ?_
  clear H
  rintro i ρ w ⟨H, hi, hz⟩
  by_cases h6 : i < b2.length
  · obtain ⟨g2, o2, rfl⟩ := Rd.some' hr2 (by omega)
    refine go_R H ?_; clear H; intro w H
    refine q_loadC ?_ (RB.cellAt (hr2.no H.fr) rfl i h6)
    have hx := by8_lt (b2.getD i 0)
    by_cases h7 : b2.getD i 0 = 0
    · have h8 : by8 (b2.getD i 0) = 0 := by rw [h7]; rfl
      refine go_R H ?_; clear H; intro w H
      exact ⟨i + 1, ⟨rfl, rfl, rfl, rfl, rfl, trivial⟩, ⟨H, by omega, fun j hj => by
        rcases Nat.lt_or_ge j i with h | h
        · exact hz j h
        · obtain rfl : j = i := by omega
          exact h7⟩, by omega⟩
    · have h8 : by8 (b2.getD i 0) ≠ 0 := fun e => h7 (by8_inj (b := 0) e)
      refine go_R H ?_; clear H; intro w H
      refine ret2 rfl rv_tmp rv_tmp ⟨_, _, rfl, .inl ⟨?_, rfl, rfl⟩, H⟩
      unfold punpad
      rw [if_neg h2, if_neg (by simp [h3]), hd2, if_neg]
      intro h
      have h := fun x hx => eq_of_beq (List.all_eq_true.1 h x hx)
      refine h7 (h _ ?_)
      rw [List.getD_eq_getElem?_getD, List.getElem?_eq_getElem h6]
      exact List.getElem_mem _
  · refine go_R H ?_; clear H; intro w H
    refine q_side0B H ?_; clear H; intro g3 w H
    refine go_R H ?_; clear H; intro w H
    rw [hoff]
    refine q_subB 2 (2 + pn b) hv ?_; intro v3 hv3 ho3
    refine q_appR H (hv3 _ (hv.no H.fr)) ?_ (h63 := by simp; omega); clear H; intro v4 w H _
    refine go_R H ?_; clear H; intro w H
    refine ret2 rfl rv_tmp rv_tmp ⟨_, _, rfl, .inr ⟨_, _, ?_, rfl, rfl⟩, H⟩
    unfold punpad
    rw [if_neg h2, if_neg (by simp [h3]), hd2, if_pos]
    · rw [List.nil_append, List.drop_take]
      congr 2
      omega
    · refine List.all_eq_true.2 fun x hx => beq_iff_eq.2 ?_
      obtain ⟨j, hj, rfl⟩ := List.getElem_of_mem hx
      have := hz j (by omega)
      rw [List.getD_eq_getElem?_getD, List.getElem?_eq_getElem hj] at this
      exact this
end Go.Proofs.Ytbdkicmdidcdcaa
namespace Go.Proofs.Ytbdkicmdidcdcaa
open Go.RowKit

structure R where
  (ver : Int) (gone : Bool) (val : List UInt8)
abbrev R.ss (r : R) : List (List Value) := [[.int .i64 r.ver], [.bool r.gone], [.string (str r.val)]]
abbrev R.v (r : R) : Value := .agg (cat r.ss).toArray
def R.zero : R := ⟨0, false, []⟩
structure rmay (r : R) : Prop where
  lo : 1 ≤ r.ver
  hi : r.ver ≤ 1099511627776
  len : r.val.length ≤ 1000
  gone : r.gone = true → r.val = []
theorem psize_pos {n : Nat} (h : n ≤ 2046) (h0 : psize n = 0) : False := by
  rcases psize_cases n with ⟨_, h5⟩ | ⟨sz, h5, h6, h7, h8⟩
  · omega
  · rw [h0] at h5; omega
theorem r_is {r : Bool} {p : Prop} (h : r = true ↔ p) : (p → r = true) ∧ (¬ p → r = false) := ⟨h.2, fun n => by cases r with | false => rfl | true => exact (n (h.1 rfl)).elim⟩
set_option maxRecDepth 100000 in
set_option maxHeartbeats 1000000 in
theorem RMay_any (r : R) (w : World) : Calls Try.prog 27 #[r.v] w fun e w' => ∃ b : Bool, e = .returned (.bool b) ∧ (b = true ↔ rmay r) ∧ No w w' := by
  have H := St.nil (fun _ => False) w
  obtain ⟨ver, gone, val⟩ := r
  have hs := str_size val
  change Calls _ _ #[.agg (cat [[.int .i64 ver], [.bool gone], [.string (str val)]]).toArray] _ _
  refine q_enter Try.func27 rfl rfl ?_
  refine go_R H ?_; clear H; intro w H
  refine q_box H ?_; clear H; intro g w H
  by_cases h1 : 1 ≤ ver
  rotate_left
  · refine go_R H ?_; clear H; intro w H
    exact ret1 rfl rv_tmp ⟨false, rfl, ⟨nofun, fun h => (h1 h.lo).elim⟩, H.fr⟩
  by_cases h2 : ver ≤ 1099511627776
  rotate_left
  · refine go_R H ?_; clear H; intro w H
    exact ret1 rfl rv_tmp ⟨false, rfl, ⟨nofun, fun h => (h2 h.hi).elim⟩, H.fr⟩
  by_cases h3 : val.length ≤ 1000
  rotate_left
  · refine go_R H ?_; clear H; intro w H
    exact ret1 rfl rv_tmp ⟨false, rfl, ⟨nofun, fun h => (h3 h.len).elim⟩, H.fr⟩
  cases gone
  · refine go_R H ?_; clear H; intro w H
    exact ret1 rfl rv_tmp ⟨true, rfl, ⟨fun _ => ⟨h1, h2, h3, nofun⟩, fun _ => rfl⟩, H.fr⟩
  by_cases h4 : val = []
  · subst h4
    refine go_R H ?_; clear H; intro w H
    exact ret1 rfl rv_tmp ⟨true, rfl, ⟨fun _ => ⟨h1, h2, h3, fun _ => rfl⟩, fun _ => rfl⟩, H.fr⟩
  · refine go_R H ?_; clear H; intro w H
    exact ret1 rfl rv_tmp ⟨false, rfl, ⟨nofun, fun h => (h4 (h.gone rfl)).elim⟩, H.fr⟩
theorem RMay_t {r : R} (h : rmay r) (w : World) : Calls Try.prog 27 #[r.v] w fun e w' => e = .returned (.bool true) ∧ No w w' :=
  (RMay_any r w).mono fun _ _ ⟨b, he, hb, hn⟩ => ⟨by rw [he, hb.2 h], hn⟩
theorem RMay_f {r : R} (h : ¬ rmay r) (w : World) : Calls Try.prog 27 #[r.v] w fun e w' => e = .returned (.bool false) ∧ No w w' :=
  (RMay_any r w).mono fun _ _ ⟨b, he, hb, hn⟩ => ⟨by rw [he, (r_is hb).2 h], hn⟩
def rhead (n : Int) : List UInt8 := [nby n 56, nby n 48, nby n 40, nby n 32, nby n 24, nby n 16, nby n 8, nby n 0]
def rbytes (r : R) : List UInt8 := rhead r.ver ++ [if r.gone then 1 else 0] ++ r.val
theorem rbytes_length (r : R) : (rbytes r).length = 9 + r.val.length := by unfold rbytes rhead; simp; omega
def PutTo (r : R) (u : Value) (L : List Res) : Prop :=
  (¬ rmay r ∧ u = .tuple #[.slice none 0 0, .int .i64 1] ∧ L = []) ∨
  ∃ (sz : Nat) (v' : Value), rmay r ∧ psize (rbytes r).length = sz ∧ (rbytes r).length + 2 ≤ sz ∧ sz ≤ 2048 ∧ 32 ≤ sz ∧ u = .tuple #[v', .int .i64 0] ∧ (∃ a, v' = .slice (some a) sz sz) ∧ L = [bsl v' (padB sz (rbytes r))]
set_option maxRecDepth 100000 in
set_option maxHeartbeats 2000000 in
theorem Put_rec (r : R) (w : World) : Tri Try.prog 25 [r.v] [] w (PutTo r) := by
  refine Tri.pure fun H => ?_
  by_cases hm : rmay r
  rotate_left
  · refine q_enter Try.func25 rfl rfl ?_
    refine go_R H ?_; clear H; intro w H
    refine q_box H ?_; clear H; intro g w H
    refine go_R H ?_; clear H; intro w H
    refine q_call (RMay_f hm _) ?_; rintro _ w1 ⟨rfl, hNo⟩; replace H := H.no hNo; clear hNo; refine ⟨_, rfl, ?_⟩
    refine go_R H ?_; clear H; intro w H
    exact ret2 rfl rv_tmp rv_tmp ⟨_, _, rfl, .inl ⟨hm, rfl, rfl⟩, H.sub (by repeat (first | exact Sub.nil | apply Sub.cons | exact Take.z | apply Take.s))⟩
  obtain ⟨ver, gone, val⟩ := r
  have hvl := hm.len
  dsimp only at hvl
  have hrl := rbytes_length ⟨ver, gone, val⟩
  dsimp only at hrl
  have PD := fun v w (hv : RB w v (rbytes ⟨ver, gone, val⟩)) => Pad_any v (rbytes ⟨ver, gone, val⟩) w hv (by omega)
  change Calls _ _ #[.agg (cat [[.int .i64 ver], [.bool gone], [.string (str val)]]).toArray] _ _
  refine q_enter Try.func25 rfl rfl ?_
  refine go_R H ?_; clear H; intro w H
  refine q_box H ?_; clear H; intro g w H
  refine go_R H ?_; clear H; intro w H
  refine q_call (RMay_t hm _) ?_; rintro _ w1 ⟨rfl, hNo⟩; replace H := H.no hNo; clear hNo; refine ⟨_, rfl, ?_⟩
  refine go_R H ?_; clear H; intro w H
  replace H := H.nilB
  refine q_rounds 9 ?_
  refine go_R H ?_; clear H; intro w H
  refine q_conv ?_ (nby_conv _ _)
  (refine q_side1 H ?_; clear H; intro g w H)
  (refine q_appT H ?_; clear H; intro v w H)
  refine go_R H ?_; clear H; intro w H
  refine q_conv ?_ (nby_conv _ _)
  (refine q_side1 H ?_; clear H; intro g w H)
  (refine q_appT H ?_; clear H; intro v w H)
  refine go_R H ?_; clear H; intro w H
  refine q_conv ?_ (nby_conv _ _)
  (refine q_side1 H ?_; clear H; intro g w H)
  (refine q_appT H ?_; clear H; intro v w H)
  refine go_R H ?_; clear H; intro w H
  refine q_conv ?_ (nby_conv _ _)
  (refine q_side1 H ?_; clear H; intro g w H)
  (refine q_appT H ?_; clear H; intro v w H)
  refine go_R H ?_; clear H; intro w H
  refine q_conv ?_ (nby_conv _ _)
  (refine q_side1 H ?_; clear H; intro g w H)
  (refine q_appT H ?_; clear H; intro v w H)
  refine go_R H ?_; clear H; intro w H
  refine q_conv ?_ (nby_conv _ _)
  (refine q_side1 H ?_; clear H; intro g w H)
  (refine q_appT H ?_; clear H; intro v w H)
  refine go_R H ?_; clear H; intro w H
  refine q_conv ?_ (nby_conv _ _)
  (refine q_side1 H ?_; clear H; intro g w H)
  (refine q_appT H ?_; clear H; intro v w H)
  refine go_R H ?_; clear H; intro w H
  refine q_conv ?_ (nby_conv _ _)
  (refine q_side1 H ?_; clear H; intro g w H)
  (refine q_appT H ?_; clear H; intro v w H)
  refine go_R H ?_; clear H; intro w H
  cases gone
  · refine go_R H ?_; clear H; intro w H
    (refine q_side1 H ?_; clear H; intro g w H)
    (refine q_appT H ?_; clear H; intro v w H)
    refine go_R H ?_; clear H; intro w H
    refine q_appS H ?_ (h63 := by rw [str_data]; simp; omega); clear H; intro v2 w H _
    rw [str_data] at H
    replace H : St (fun _ => False) _ [bsl v2 (rbytes ⟨ver, false, val⟩)] _ := H.sub (by repeat (first | exact Sub.nil | apply Sub.cons | exact Take.z | apply Take.s))
    refine q_tri H (PD v2 _ (H.rbB .z)) ?_; clear H; rintro _ _ w (⟨h0, rfl, rfl⟩ | ⟨sz, v', h0, h1, h2, h3, rfl, h4, rfl⟩) H
    · exact (psize_pos (by omega) h0).elim
    · refine go_R H ?_; clear H; intro w H
      exact ret2 rfl rv_tmp rv_tmp ⟨_, _, rfl, .inr ⟨sz, v', hm, h0, h1, h2, h3, rfl, h4, rfl⟩, H.sub (by repeat (first | exact Sub.nil | apply Sub.cons | exact Take.z | apply Take.s))⟩
  · refine go_R H ?_; clear H; intro w H
    (refine q_side1 H ?_; clear H; intro g w H)
    (refine q_appT H ?_; clear H; intro v w H)
    refine go_R H ?_; clear H; intro w H
    refine q_appS H ?_ (h63 := by rw [str_data]; simp; omega); clear H; intro v2 w H _
    rw [str_data] at H
    replace H : St (fun _ => False) _ [bsl v2 (rbytes ⟨ver, true, val⟩)] _ := H.sub (by repeat (first | exact Sub.nil | apply Sub.cons | exact Take.z | apply Take.s))
    refine q_tri H (PD v2 _ (H.rbB .z)) ?_; clear H; rintro _ _ w (⟨h0, rfl, rfl⟩ | ⟨sz, v', h0, h1, h2, h3, rfl, h4, rfl⟩) H
    · exact (psize_pos (by omega) h0).elim
    · refine go_R H ?_; clear H; intro w H
      exact ret2 rfl rv_tmp rv_tmp ⟨_, _, rfl, .inr ⟨sz, v', hm, h0, h1, h2, h3, rfl, h4, rfl⟩, H.sub (by repeat (first | exact Sub.nil | apply Sub.cons | exact Take.z | apply Take.s))⟩
set_option maxRecDepth 100000 in
theorem beside_any (label : B32) (n : Int) (w : World) (hn : -9223372036854775808 ≤ n ∧ n ≤ 9223372036854775807) : Tri Try.prog 46 [.agg (bs label.l).toArray, .int .i64 n] [] w fun u L => L = [bsl u (label.l ++ putN n)] := by
  refine Tri.pure fun H => ?_
  have hll := label.len
  refine q_enter Try.func46 rfl rfl ?_
  refine go_R H ?_; clear H; intro w H
  refine q_box H ?_; clear H; intro g w H
  refine go_R H ?_; clear H; intro w H
  replace H := H.asB 32 hll (by omega)
  refine q_tri H (Put_tri n _ label.l _ hn.1 hn.2 (by omega)) ?_; clear H; rintro u _ w rfl H
  refine go_R H ?_; clear H; intro w H
  exact ret1 rfl rv_tmp ⟨_, _, rfl, rfl, H.sub (by repeat (first | exact Sub.nil | apply Sub.cons | exact Take.z | apply Take.s))⟩
end Go.Proofs.Ytbdkicmdidcdcaa
namespace Go.Proofs.Ytbdkicmdidcdcaa
open Go.RowKit

/-- The version, as it is put together. -/
def gver (m : List UInt8) : Nat → Int
  | 0 => 0
  | i + 1 => bits .or .i64 (IntKind.i64.wrap (gver m i * 2 ^ 8)) (by8 (m.getD i 0))
def gRec (m : List UInt8) : R := ⟨gver (m.take 8) 8, decide (by8 (m.getD 8 0) = 1), m.drop 9⟩
open Classical in
noncomputable def rget (b : List UInt8) : Option R :=
  match punpad b with
  | none => none
  | some m => if m.length < 9 then none else if by8 (m.getD 8 0) > 1 then none else if rmay (gRec m) then some (gRec m) else none
def GetTo (o : Option R) (u : Value) : Prop := (o = none ∧ u = .tuple #[R.zero.v, .int .i64 1]) ∨ ∃ r, o = some r ∧ u = .tuple #[r.v, .int .i64 0]
theorem punpad_length {b m : List UInt8} (h : punpad b = some m) : m.length ≤ b.length := by
  unfold punpad at h
  split at h
  · cases h
  split at h
  · cases h
  split at h
  · injection h with h; subst h; simp; omega
  · cases h
set_option maxRecDepth 100000 in
set_option maxHeartbeats 4000000 in
theorem Get_any (v : Value) (b : List UInt8) (W : World) (hv : RB W v b) (hb : b.length ≤ 100000) : Calls Try.prog 30 #[v] W fun e w' => ∃ u, e = .returned u ∧ GetTo (rget b) u ∧ No W w' := by
  have H := St.nil (fun _ => False) W
  have UN := fun w (hv : RB w v b) => Unpad_any v b w hv hb
  refine q_enter Try.func30 rfl rfl ?_
  refine go_R H ?_; clear H; intro w H
  refine q_alloc H ?_; clear H; intro g2 w H
  refine go_R H ?_; clear H; intro w H
  refine q_tri H (UN _ (hv.no H.fr)) ?_; clear H; rintro _ _ w (⟨hp, rfl, rfl⟩ | ⟨m, v', hp, rfl, rfl⟩) H
  · refine go_R H ?_; clear H; intro w H
    refine q_buildR R.zero.ss ?_
    refine go_R H ?_; clear H; intro w H
    exact ret2 rfl (rv_cat H) rv_tmp ⟨_, rfl, .inl ⟨by unfold rget; rw [hp], rfl⟩, H.fr⟩
  have hml := punpad_length hp
  obtain ⟨a1, c1, rfl⟩ := RB.val (H.rbB (v := v') (by (repeat (first | exact Take.z | apply Take.s)); done))
  by_cases h9 : m.length < 9
  · refine go_R H ?_; clear H; intro w H
    refine q_buildR R.zero.ss ?_
    refine go_R H ?_; clear H; intro w H
    exact ret2 rfl (rv_cat H) rv_tmp ⟨_, rfl, .inl ⟨by unfold rget; rw [hp]; exact if_pos h9, rfl⟩, H.fr⟩
  obtain ⟨g, off, rfl⟩ := Rd.some' (H.rbB (v := .slice a1 m.length c1) (by (repeat (first | exact Take.z | apply Take.s)); done)) (by omega)
  have x8 := by8_lt (m.getD 8 0)
  refine go_R H ?_; clear H; intro w H
  refine q_loadC ?_ (RB.cellAt (H.rbB (v := .slice (some ⟨g, off, none⟩) m.length c1) (by (repeat (first | exact Take.z | apply Take.s)); done)) rfl 8 (by omega))
  by_cases h8 : by8 (m.getD 8 0) > 1
  · refine go_R H ?_; clear H; intro w H
    refine q_buildR R.zero.ss ?_
    refine go_R H ?_; clear H; intro w H
    exact ret2 rfl (rv_cat H) rv_tmp ⟨_, rfl, .inl ⟨by unfold rget; rw [hp]; dsimp only; rw [if_neg h9, if_pos h8], rfl⟩, H.fr⟩
  refine go_R H ?_; clear H; intro w H
  replace H := H.drew
  refine r_start (fun w => RB w (.slice (some ⟨g, off, none⟩) m.length c1) m) 10 rfl (H.rbB (by (repeat (first | exact Take.z | apply Take.s)); done)) ?_
  refine r_takeR 0 ?_; refine r_takeR 4 ?_; refine r_takeR 1 ?_
  refine r_takeE 5 rfl rfl (x_fromB 9 (H.rbB (v := .slice (some ⟨g, off, none⟩) m.length c1) (by (repeat (first | exact Take.z | apply Take.s)); done))) ?_
  rintro v9 ⟨hv9, _⟩
  refine r_take 2 rfl rfl (fun w hS => x_loadC (RB.cellAt hS rfl 8 (by omega)) rfl) ?_
  refine r_take 6 rfl rfl (fun w hS => x_str (hv9 w hS)) ?_
  obtain ⟨gn, hgn⟩ : ∃ x, decide (by8 (m.getD 8 0) = 1) = x := ⟨_, rfl⟩
  refine r_take 3 (v := .bool gn) rfl rfl (fun w hS => by
    subst hgn
    by_cases h : by8 (m.getD 8 0) = 1
    · rw [decide_eq_true h]; exact x_eq_t
    · rw [decide_eq_false h]; exact x_eq_f) ?_
  refine r_take 7 rfl rfl (fun w hS => x_buildR [[.int .i64 0], [.bool gn], [.string (str (m.drop 9))]]) ?_
  refine r_op 8 rfl ?_
  refine q_alloc H ?_; clear H; intro g5 w H
  refine q_nil ?_
  refine r_next (H.rbB (by (repeat (first | exact Take.z | apply Take.s)); done)) ?_
  refine r_op 9 rfl ?_
  refine q_storeRW (g := g5) (ss' := [[.int .i64 0], [.bool gn], [.string (str (m.drop 9))]]) H ?_; clear H; intro w H
  refine q_nil ?_
  refine r_next (H.rbB (by (repeat (first | exact Take.z | apply Take.s)); done)) ?_
  refine r_done ?_
  refine go_R H ?_; clear H; intro w H
  refine q_toB 8 (H.rbB (v := .slice (some ⟨g, off, none⟩) m.length c1) (by (repeat (first | exact Take.z | apply Take.s)); done)) ?_; intro v8 hv8 _
  have hl8 : (m.take 8).length = 8 := by rw [List.length_take]; omega
  obtain ⟨a8, c8, rfl⟩ := RB.valN (hv8 _ (H.rbB (v := .slice (some ⟨g, off, none⟩) m.length c1) (by (repeat (first | exact Take.z | apply Take.s)); done))) hl8
  obtain ⟨g8, o8, rfl⟩ := Rd.some' (n := 8) (by have := hv8 _ (H.rbB (v := .slice (some ⟨g, off, none⟩) m.length c1) (by (repeat (first | exact Take.z | apply Take.s)); done)); unfold RB at this; rw [hl8] at this; exact this) (by omega)
  refine go_R H ?_; clear H; intro w H
  refine q_loop (fun i : Nat => [(2, .pointer (some ⟨g2, 0, none⟩)), (5, .pointer (some ⟨g5, 0, none⟩)), (36, .slice (some ⟨g8, o8, none⟩) 8 c8), (37, .int .i64 8), (38, .int .i64 i)])
    (fun i w => St (fun _ => False) W [cells g5 (cat [[.int .i64 (gver (m.take 8) i)], [.bool gn], [.string (str (m.drop 9))]]) 42, bsl (.slice (some ⟨g, off, none⟩) m.length c1) m, cells g2 (cat R.zero.ss) 42] w ∧ i ≤ 8) (fun i => 8 - i) 0 (by exact ⟨rfl, rfl, rfl, rfl, rfl, trivial⟩) ⟨H.sub (by repeat (first | exact Sub.nil | apply Sub.cons | exact Take.z | apply Take.s)), by omega⟩ ?_
  clear H
  rintro i ρ w ⟨H, hi⟩
  by_cases h6 : i < 8
  · have x7 := by8_lt ((m.take 8).getD i 0)
    refine go_R H ?_; clear H; intro w H
    refine q_loadC ?_ (RB.cellAt (hv8 _ (H.rbB (v := .slice (some ⟨g, off, none⟩) m.length c1) (by (repeat (first | exact Take.z | apply Take.s)); done))) hl8 i h6)
    refine go_R H ?_; clear H; intro w H
    refine q_shlW ?_ rfl
    refine go_R H ?_; clear H; intro w H
    refine q_int ?_ (run_binop_bits (.inr (.inl rfl)) rfl) rfl rfl
    refine go_R H ?_; clear H; intro w H
    exact ⟨i + 1, ⟨rfl, rfl, rfl, rfl, rfl, trivial⟩, ⟨H.sub (by repeat (first | exact Sub.nil | apply Sub.cons | exact Take.z | apply Take.s)), by omega⟩, by omega⟩
  obtain rfl : i = 8 := by omega
  have hgr : gRec m = ⟨gver (m.take 8) 8, gn, m.drop 9⟩ := by unfold gRec; rw [hgn]
  by_cases hm : rmay (gRec m)
  · have MT := fun w => RMay_t hm w
    rw [hgr] at MT
    obtain ⟨vr, hvr⟩ : ∃ x, gver (m.take 8) 8 = x := ⟨_, rfl⟩
    rw [hvr] at H MT
    refine go_R H ?_; clear H; intro w H
    refine q_call (MT _) ?_; rintro _ w1 ⟨rfl, hNo⟩; replace H := H.no hNo; clear hNo; refine ⟨_, rfl, ?_⟩
    refine go_R H ?_; clear H; intro w H
    refine ret2 rfl (rv_cat H) rv_tmp ⟨_, rfl, .inr ⟨gRec m, by unfold rget; rw [hp]; dsimp only; rw [if_neg h9, if_neg h8, if_pos hm], ?_⟩, H.fr⟩
    rw [hgr, hvr]
  · have MT := fun w => RMay_f hm w
    rw [hgr] at MT
    obtain ⟨vr, hvr⟩ : ∃ x, gver (m.take 8) 8 = x := ⟨_, rfl⟩
    rw [hvr] at H MT
    refine go_R H ?_; clear H; intro w H
    refine q_call (MT _) ?_; rintro _ w1 ⟨rfl, hNo⟩; replace H := H.no hNo; clear hNo; refine ⟨_, rfl, ?_⟩
    refine go_R H ?_; clear H; intro w H
    refine q_buildR R.zero.ss ?_
    refine go_R H ?_; clear H; intro w H
    exact ret2 rfl (rv_cat H) rv_tmp ⟨_, rfl, .inl ⟨by unfold rget; rw [hp]; dsimp only; rw [if_neg h9, if_neg h8, if_neg hm], rfl⟩, H.fr⟩
end Go.Proofs.Ytbdkicmdidcdcaa
