/-
  The same operations as equations of their runs (printed by wip/dev/mkx.py). What is handed back, on a frame of slots. Plain laws over any program. append, copy, make, slices of slices, strings, on a frame of slots and by resources. Plain laws over any program. copy, make, slices of slices, strings, on a frame of slots and by resources. Plain laws over any program. Regions that draw their order: blocks that nobody writes meanwhile; ways that meet again. Plain laws over any program. Words; pieces of arrays, on a frame of slots. Plain laws over any program.
-/
import Derived.Test.YtbdkicmdidcdcaaZG
import Derived.Laws.MakeOwn
import Derived.Laws.IdiomStrings
import Derived.Laws.BytesArg
import Derived.Lib.SlBytesConst
namespace Go.Proofs.Ytbdkicmdidcdcaa
open Go.RowKit

section
variable {P : Program} {ρ : Env} {w : World} {d : Nat} {T : TypeId} {p : String} {af : Array Edge} {g gd : Option (Nat × Bool)}
theorem x_move {x : Operand} {v : Value}  (hx : ev ρ x = v := by conv => lhs; whnf) :
    (execOp (ev ρ) ⟨some d, .move x, T, p, af, g⟩).run P w = .ok (.value v) w := (by subst hx; rfl)
theorem x_assign {x : Operand} {v : Value}  (hx : ev ρ x = v := by conv => lhs; whnf) :
    (execOp (ev ρ) ⟨some d, .assign x, T, p, af, g⟩).run P w = .ok (.value v) w := (by subst hx; rfl)
theorem x_pick_t {c x y : Operand} {v : Value}  (hc : ev ρ c = .bool true := by rfl) (hx : ev ρ x = v := by conv => lhs; whnf) :
    (execOp (ev ρ) ⟨some d, .pick c x y, T, p, af, g⟩).run P w = .ok (.value v) w := (by subst hx; simp [execOp, hc, asBool])
theorem x_pick_f {c x y : Operand} {v : Value}  (hc : ev ρ c = .bool false := by rfl) (hx : ev ρ y = v := by conv => lhs; whnf) :
    (execOp (ev ρ) ⟨some d, .pick c x y, T, p, af, g⟩).run P w = .ok (.value v) w := (by subst hx; simp [execOp, hc, asBool])
theorem x_lt_t {xt yt : TypeId} {x y : Operand} {k : IntKind} {a b : Int}  (hx : ev ρ x = .int k a := by rfl) (hy : ev ρ y = .int k b := by rfl) (hp : a < b := by omega) :
    (execOp (ev ρ) ⟨some d, .binOp .lss xt x y yt, T, p, af, g⟩).run P w = .ok (.value (.bool true)) w := (run_binop_int hx hy (by rw [run_cmp_lss, decide_eq_true hp]))
theorem x_lt_f {xt yt : TypeId} {x y : Operand} {k : IntKind} {a b : Int}  (hx : ev ρ x = .int k a := by rfl) (hy : ev ρ y = .int k b := by rfl) (hp : b ≤ a := by omega) :
    (execOp (ev ρ) ⟨some d, .binOp .lss xt x y yt, T, p, af, g⟩).run P w = .ok (.value (.bool false)) w := (run_binop_int hx hy (by rw [run_cmp_lss, decide_eq_false (Int.not_lt.2 hp)]))
theorem x_le_t {xt yt : TypeId} {x y : Operand} {k : IntKind} {a b : Int}  (hx : ev ρ x = .int k a := by rfl) (hy : ev ρ y = .int k b := by rfl) (hp : a ≤ b := by omega) :
    (execOp (ev ρ) ⟨some d, .binOp .leq xt x y yt, T, p, af, g⟩).run P w = .ok (.value (.bool true)) w := (run_binop_int hx hy (by rw [run_cmp_leq, decide_eq_true hp]))
theorem x_le_f {xt yt : TypeId} {x y : Operand} {k : IntKind} {a b : Int}  (hx : ev ρ x = .int k a := by rfl) (hy : ev ρ y = .int k b := by rfl) (hp : b < a := by omega) :
    (execOp (ev ρ) ⟨some d, .binOp .leq xt x y yt, T, p, af, g⟩).run P w = .ok (.value (.bool false)) w := (run_binop_int hx hy (by rw [run_cmp_leq, decide_eq_false (Int.not_le.2 hp)]))
theorem x_gt_t {xt yt : TypeId} {x y : Operand} {k : IntKind} {a b : Int}  (hx : ev ρ x = .int k a := by rfl) (hy : ev ρ y = .int k b := by rfl) (hp : b < a := by omega) :
    (execOp (ev ρ) ⟨some d, .binOp .gtr xt x y yt, T, p, af, g⟩).run P w = .ok (.value (.bool true)) w := (run_binop_int hx hy (by rw [run_cmp_gtr, decide_eq_true hp]))
theorem x_gt_f {xt yt : TypeId} {x y : Operand} {k : IntKind} {a b : Int}  (hx : ev ρ x = .int k a := by rfl) (hy : ev ρ y = .int k b := by rfl) (hp : a ≤ b := by omega) :
    (execOp (ev ρ) ⟨some d, .binOp .gtr xt x y yt, T, p, af, g⟩).run P w = .ok (.value (.bool false)) w := (run_binop_int hx hy (by rw [run_cmp_gtr, decide_eq_false (Int.not_lt.2 hp)]))
theorem x_ge_t {xt yt : TypeId} {x y : Operand} {k : IntKind} {a b : Int}  (hx : ev ρ x = .int k a := by rfl) (hy : ev ρ y = .int k b := by rfl) (hp : b ≤ a := by omega) :
    (execOp (ev ρ) ⟨some d, .binOp .geq xt x y yt, T, p, af, g⟩).run P w = .ok (.value (.bool true)) w := (run_binop_int hx hy (by rw [run_cmp_geq, decide_eq_true hp]))
theorem x_ge_f {xt yt : TypeId} {x y : Operand} {k : IntKind} {a b : Int}  (hx : ev ρ x = .int k a := by rfl) (hy : ev ρ y = .int k b := by rfl) (hp : a < b := by omega) :
    (execOp (ev ρ) ⟨some d, .binOp .geq xt x y yt, T, p, af, g⟩).run P w = .ok (.value (.bool false)) w := (run_binop_int hx hy (by rw [run_cmp_geq, decide_eq_false (Int.not_le.2 hp)]))
theorem x_eq_t {xt yt : TypeId} {x y : Operand} {k : IntKind} {a b : Int}  (hx : ev ρ x = .int k a := by rfl) (hy : ev ρ y = .int k b := by rfl) (hp : a = b := by omega) :
    (execOp (ev ρ) ⟨some d, .binOp .eql xt x y yt, T, p, af, g⟩).run P w = .ok (.value (.bool true)) w := (run_binop_int hx hy (by rw [run_cmp_eql, beq_iff_eq.2 hp]))
theorem x_eq_f {xt yt : TypeId} {x y : Operand} {k : IntKind} {a b : Int}  (hx : ev ρ x = .int k a := by rfl) (hy : ev ρ y = .int k b := by rfl) (hp : a ≠ b := by omega) :
    (execOp (ev ρ) ⟨some d, .binOp .eql xt x y yt, T, p, af, g⟩).run P w = .ok (.value (.bool false)) w := (run_binop_int hx hy (by rw [run_cmp_eql, beq_eq_false_iff_ne.2 hp]))
theorem x_ne_t {xt yt : TypeId} {x y : Operand} {k : IntKind} {a b : Int}  (hx : ev ρ x = .int k a := by rfl) (hy : ev ρ y = .int k b := by rfl) (hp : a ≠ b := by omega) :
    (execOp (ev ρ) ⟨some d, .binOp .neq xt x y yt, T, p, af, g⟩).run P w = .ok (.value (.bool true)) w := (run_binop_int hx hy (by rw [run_cmp_neq, bne_iff_ne.2 hp]))
theorem x_ne_f {xt yt : TypeId} {x y : Operand} {k : IntKind} {a b : Int}  (hx : ev ρ x = .int k a := by rfl) (hy : ev ρ y = .int k b := by rfl) (hp : a = b := by omega) :
    (execOp (ev ρ) ⟨some d, .binOp .neq xt x y yt, T, p, af, g⟩).run P w = .ok (.value (.bool false)) w := (run_binop_int hx hy (by rw [run_cmp_neq, hp]; simp))
theorem x_add64 {xt yt : TypeId} {x y : Operand} {a b c : Int}  (hx : ev ρ x = .int .i64 a := by rfl) (hy : ev ρ y = .int .i64 b := by rfl) (hc : a + b = c := by conv => lhs; first | simp only [Int.reduceAdd, Int.reduceSub, Int.reduceMul, Int.zero_add, Int.add_zero, Int.mul_one, Int.one_mul] | skip)
    (h1 : -9223372036854775808 ≤ a + b := by omega) (h2 : a + b ≤ 9223372036854775807 := by omega) :
    (execOp (ev ρ) ⟨some d, .binOp .add xt x y yt, T, p, af, g⟩).run P w = .ok (.value (.int .i64 c)) w := (run_binop_int hx hy (by subst hc; simp [binOp, Op.intArith]; exact IntWalk.i64_in _ ⟨h1, h2⟩))
theorem x_addW {xt yt : TypeId} {x y : Operand} {k : IntKind} {a b c : Int}  (hc : k.wrap (a + b) = c) (hx : ev ρ x = .int k a := by rfl) (hy : ev ρ y = .int k b := by rfl)
    :
    (execOp (ev ρ) ⟨some d, .binOp .add xt x y yt, T, p, af, g⟩).run P w = .ok (.value (.int k c)) w := (run_binop_int hx hy (by subst hc; simp [binOp, Op.intArith]))
theorem x_sub64 {xt yt : TypeId} {x y : Operand} {a b c : Int}  (hx : ev ρ x = .int .i64 a := by rfl) (hy : ev ρ y = .int .i64 b := by rfl) (hc : a - b = c := by conv => lhs; first | simp only [Int.reduceAdd, Int.reduceSub, Int.reduceMul, Int.zero_add, Int.add_zero, Int.mul_one, Int.one_mul] | skip)
    (h1 : -9223372036854775808 ≤ a - b := by omega) (h2 : a - b ≤ 9223372036854775807 := by omega) :
    (execOp (ev ρ) ⟨some d, .binOp .sub xt x y yt, T, p, af, g⟩).run P w = .ok (.value (.int .i64 c)) w := (run_binop_int hx hy (by subst hc; simp [binOp, Op.intArith]; exact IntWalk.i64_in _ ⟨h1, h2⟩))
theorem x_subW {xt yt : TypeId} {x y : Operand} {k : IntKind} {a b c : Int}  (hc : k.wrap (a - b) = c) (hx : ev ρ x = .int k a := by rfl) (hy : ev ρ y = .int k b := by rfl)
    :
    (execOp (ev ρ) ⟨some d, .binOp .sub xt x y yt, T, p, af, g⟩).run P w = .ok (.value (.int k c)) w := (run_binop_int hx hy (by subst hc; simp [binOp, Op.intArith]))
theorem x_mul64 {xt yt : TypeId} {x y : Operand} {a b c : Int}  (hx : ev ρ x = .int .i64 a := by rfl) (hy : ev ρ y = .int .i64 b := by rfl) (hc : a * b = c := by conv => lhs; first | simp only [Int.reduceAdd, Int.reduceSub, Int.reduceMul, Int.zero_add, Int.add_zero, Int.mul_one, Int.one_mul] | skip)
    (h1 : -9223372036854775808 ≤ a * b := by omega) (h2 : a * b ≤ 9223372036854775807 := by omega) :
    (execOp (ev ρ) ⟨some d, .binOp .mul xt x y yt, T, p, af, g⟩).run P w = .ok (.value (.int .i64 c)) w := (run_binop_int hx hy (by subst hc; simp [binOp, Op.intArith]; exact IntWalk.i64_in _ ⟨h1, h2⟩))
theorem x_mulW {xt yt : TypeId} {x y : Operand} {k : IntKind} {a b c : Int}  (hc : k.wrap (a * b) = c) (hx : ev ρ x = .int k a := by rfl) (hy : ev ρ y = .int k b := by rfl)
    :
    (execOp (ev ρ) ⟨some d, .binOp .mul xt x y yt, T, p, af, g⟩).run P w = .ok (.value (.int k c)) w := (run_binop_int hx hy (by subst hc; simp [binOp, Op.intArith]))
theorem x_quo64 {xt yt : TypeId} {x y : Operand} {a b : Int} {c : Int}  (hx : ev ρ x = .int .i64 a := by rfl) (hy : ev ρ y = .int .i64 b := by rfl) (hc : a / b = c := by conv => lhs; first | simp only [Int.reduceDiv, Int.reduceMod] | skip)
    (h0 : 0 ≤ a := by omega) (h1 : a ≤ 9223372036854775807 := by omega) (hb : 0 < b := by omega) :
    (execOp (ev ρ) ⟨some d, .binOp .quo xt x y yt, T, p, af, g⟩).run P w = .ok (.value (.int .i64 c)) w := (run_binop_int hx hy (by
      subst hc
      have hq : a.tdiv b = a / b := Int.tdiv_eq_ediv_of_nonneg h0
      have h2 : 0 ≤ a / b := Int.ediv_nonneg h0 (by omega)
      have h3 : a / b ≤ a := Int.ediv_le_self _ h0
      have hb0 : ¬ b = 0 := by omega
      simp [binOp, Op.intDiv, hb0, hq]; exact IntWalk.i64_in _ ⟨by omega, by omega⟩))
theorem x_rem64 {xt yt : TypeId} {x y : Operand} {k : IntKind} {a b : Int} {c : Int}  (hx : ev ρ x = .int k a := by rfl) (hy : ev ρ y = .int k b := by rfl) (hc : a % b = c := by conv => lhs; first | simp only [Int.reduceDiv, Int.reduceMod] | skip)
    (h0 : 0 ≤ a := by omega) (hb : 0 < b := by omega) :
    (execOp (ev ρ) ⟨some d, .binOp .rem xt x y yt, T, p, af, g⟩).run P w = .ok (.value (.int k c)) w := (run_binop_int hx hy (by
      subst hc
      have hq : a.tmod b = a % b := Int.tmod_eq_emod_of_nonneg h0
      have hb0 : ¬ b = 0 := by omega
      simp [binOp, Op.intDiv, hb0, hq]))
theorem x_remW {xt yt : TypeId} {x y : Operand} {k : IntKind} {a b c : Int}  (hc : a.tmod b = c) (hx : ev ρ x = .int k a := by rfl) (hy : ev ρ y = .int k b := by rfl)
    (hb : b ≠ 0 := by omega) :
    (execOp (ev ρ) ⟨some d, .binOp .rem xt x y yt, T, p, af, g⟩).run P w = .ok (.value (.int k c)) w := (run_binop_int hx hy (by subst hc; simp [binOp, Op.intDiv, hb]))
theorem x_quoW {xt yt : TypeId} {x y : Operand} {k : IntKind} {a b c : Int}  (hc : k.wrap (a.tdiv b) = c) (hx : ev ρ x = .int k a := by rfl) (hy : ev ρ y = .int k b := by rfl)
    (hb : b ≠ 0 := by omega) :
    (execOp (ev ρ) ⟨some d, .binOp .quo xt x y yt, T, p, af, g⟩).run P w = .ok (.value (.int k c)) w := (run_binop_int hx hy (by subst hc; simp [binOp, Op.intDiv, hb]))
theorem x_int {op : BinOp} {xt yt : TypeId} {x y : Operand} {k : IntKind} {a b : Int} {r : Value}  (hr : (binOp op xt (.int k a) (.int k b)).run P w = .ok r w) (hx : ev ρ x = .int k a := by rfl) (hy : ev ρ y = .int k b := by rfl)
    :
    (execOp (ev ρ) ⟨some d, .binOp op xt x y yt, T, p, af, g⟩).run P w = .ok (.value r) w := (run_binop_int hx hy hr)
theorem x_shlW {xt yt : TypeId} {x y : Operand} {k k' : IntKind} {a c : Int} {b : Nat}  (hc : k.wrap (a * 2 ^ b) = c) (hx : ev ρ x = .int k a := by rfl) (hy : ev ρ y = .int k' b := by rfl)
    (hb : b ≤ k.bits := by decide) :
    (execOp (ev ρ) ⟨some d, .binOp .shl xt x y yt, T, p, af, g⟩).run P w = .ok (.value (.int k c)) w := (run_binop_shift hx hy (.inl rfl) (by subst hc; have hn : ¬ (b : Int) < 0 := Int.not_lt.2 (Int.natCast_nonneg b); simp [Op.shift, Nat.min_eq_left hb, hn]))
theorem x_shr {xt yt : TypeId} {x y : Operand} {k k' : IntKind} {a : Int} {b : Nat}  (hx : ev ρ x = .int k a := by rfl) (hy : ev ρ y = .int k' b := by rfl)
    (hb : b ≤ k.bits := by decide) :
    (execOp (ev ρ) ⟨some d, .binOp .shr xt x y yt, T, p, af, g⟩).run P w = .ok (.value (.int k (a.fdiv (2 ^ b)))) w := (run_binop_shift hx hy (.inr rfl) (by have hn : ¬ (b : Int) < 0 := Int.not_lt.2 (Int.natCast_nonneg b); simp [Op.shift, Nat.min_eq_left hb, hn]))
theorem x_not_t {xt : TypeId} {x : Operand}  (hx : ev ρ x = .bool true := by rfl) :
    (execOp (ev ρ) ⟨some d, .unOp .not xt x, T, p, af, g⟩).run P w = .ok (.value (.bool false)) w := (by simp [execOp, hx, Op.unary])
theorem x_not_f {xt : TypeId} {x : Operand}  (hx : ev ρ x = .bool false := by rfl) :
    (execOp (ev ρ) ⟨some d, .unOp .not xt x, T, p, af, g⟩).run P w = .ok (.value (.bool true)) w := (by simp [execOp, hx, Op.unary])
theorem x_un {op : UnOp} {xt : TypeId} {x : Operand} {v r : Value}  (hr : (Op.unary op v).run P w = .ok r w) (hx : ev ρ x = v := by rfl) :
    (execOp (ev ρ) ⟨some d, .unOp op xt x, T, p, af, g⟩).run P w = .ok (.value r) w := (by simp [execOp, hx, hr])
theorem x_extract {x : Operand} {i : Nat} {vs : List Value} {v : Value}  (hx : ev ρ x = .tuple vs.toArray := by rfl) (hv : vs[i]? = some v := by rfl) :
    (execOp (ev ρ) ⟨some d, .extract x i, T, p, af, g⟩).run P w = .ok (.value v) w := (by simp [execOp, hx, Instr.extract, hv])
theorem x_nilCheck {x : Operand} {a : Addr}  (hx : ev ρ x = .pointer (some a) := by rfl) :
    (execOp (ev ρ) ⟨some d, .nilCheck x, T, p, af, g⟩).run P w = .ok (.value (.pointer (some a))) w := (by simp [execOp, hx])
theorem x_nil_eq_f {xt yt : TypeId} [ht : PtrOf P xt] {x y : Operand} {a : Addr}  (hx : ev ρ x = .pointer (some a) := by rfl) (hy : ev ρ y = .pointer none := by rfl) :
    (execOp (ev ρ) ⟨some d, .binOp .eql xt x y yt, T, p, af, gd⟩).run P w = .ok (.value (.bool false)) w := (run_binop_ptr hx hy (by simp [eqGuard]) (by rw [run_eql_pointer_nil _ _ _ ht.und]; rfl))
theorem x_nil_eq_t {xt yt : TypeId} [ht : PtrOf P xt] {x y : Operand}  (hx : ev ρ x = .pointer none := by rfl) (hy : ev ρ y = .pointer none := by rfl) :
    (execOp (ev ρ) ⟨some d, .binOp .eql xt x y yt, T, p, af, gd⟩).run P w = .ok (.value (.bool true)) w := (run_binop_ptr hx hy (by simp [eqGuard]) (by rw [run_eql_pointer_nil _ _ _ ht.und]; rfl))
theorem x_nil_ne_t {xt yt : TypeId} [ht : PtrOf P xt] {x y : Operand} {a : Addr}  (hx : ev ρ x = .pointer (some a) := by rfl) (hy : ev ρ y = .pointer none := by rfl) :
    (execOp (ev ρ) ⟨some d, .binOp .neq xt x y yt, T, p, af, gd⟩).run P w = .ok (.value (.bool true)) w := (run_binop_ptr hx hy (by simp [eqGuard]) (by rw [run_neq_pointer_nil _ _ _ ht.und]; rfl))
theorem x_nil_ne_f {xt yt : TypeId} [ht : PtrOf P xt] {x y : Operand}  (hx : ev ρ x = .pointer none := by rfl) (hy : ev ρ y = .pointer none := by rfl) :
    (execOp (ev ρ) ⟨some d, .binOp .neq xt x y yt, T, p, af, gd⟩).run P w = .ok (.value (.bool false)) w := (run_binop_ptr hx hy (by simp [eqGuard]) (by rw [run_neq_pointer_nil _ _ _ ht.und]; rfl))
theorem x_conv {s t : TypeId} {x : Operand} {k k' : IntKind} {a c : Int} [hs : CellOf P s] [ht : IntOf P t k']  (hc : k'.wrap a = c) (hx : ev ρ x = .int k a := by rfl) :
    (execOp (ev ρ) ⟨some d, .convert s t x, T, p, af, gd⟩).run P w = .ok (.value (.int k' c)) w := by
  obtain ⟨ds, hu, _, _⟩ := hs.out
  subst hc
  simp only [execOp, convert, hx, Sem.run_bind, run_underlying hu, run_underlying ht.und, Result.andThen_ok]
  simp [Conv.intToInt]
theorem x_loadC {t : Nat} {x : Operand} {a : Addr} {v : Value} [CellOf P t]  (hc : w.cell? a = some v) (hx : ev ρ x = .pointer (some a) := by rfl) :
    (execOp (ev ρ) ⟨some d, .load t x, T, p, af, gd⟩).run P w = .ok (.value v) w := (by simp [execOp, hx, Instr.loadAt, Instr.sureAddr, run_loadVar_cell hc])
theorem x_field {s i o ty k : Nat} {x : Operand} {g : Nat} [hf : FldAt P s i o ty k]  (hx : ev ρ x = .pointer (some ⟨g, 0, none⟩) := by rfl) :
    (execOp (ev ρ) ⟨some d, .fieldAddr s x i, T, p, af, gd⟩).run P w = .ok (.value (.pointer (some ⟨g, o, none⟩))) w := by
  obtain ⟨fs, hu, f, h1, h2, h3, h4, h5⟩ := hf.out
  subst h2 h3
  simp [execOp, hx, Instr.fieldAt, Instr.sureAddr, run_underlying hu, h1, fieldPlace, run_sizeOf_of h4, h5, addr_add]
theorem x_fieldO {s i o ty k : Nat} {x : Operand} {g off off' : Nat} [hf : FldAt P s i o ty k]  (hx : ev ρ x = .pointer (some ⟨g, off, none⟩) := by rfl) (ho : off + o = off' := by conv => lhs; first | simp only [Nat.zero_add, Nat.add_zero, Nat.reduceAdd] | skip) :
    (execOp (ev ρ) ⟨some d, .fieldAddr s x i, T, p, af, gd⟩).run P w = .ok (.value (.pointer (some ⟨g, off', none⟩))) w := by
  obtain ⟨fs, hu, f, h1, h2, h3, h4, h5⟩ := hf.out
  subst h2 h3 ho
  simp [execOp, hx, Instr.fieldAt, Instr.sureAddr, run_underlying hu, h1, fieldPlace, run_sizeOf_of h4, h5, addr_add]
theorem x_partC {s i o ty k : Nat} {x : Operand} {l : List Value} {v : Value} [hf : FldAt P s i o ty k] [CellOf P ty]  (hx : ev ρ x = .agg l.toArray := by rfl) (hv : l[o]? = some v := by rfl) :
    (execOp (ev ρ) ⟨some d, .field s x i, T, p, af, gd⟩).run P w = .ok (.value v) w := by
  obtain ⟨fs, hu, f, h1, h2, h3, h4, h5⟩ := hf.out
  subst h2 h3
  simp [execOp, hx, Instr.field, run_underlying hu, h1, part, asAgg, run_isAgg_f, hv]
theorem x_partA {s i o ty k : Nat} {x : Operand} {l vs : List Value} [hf : FldAt P s i o ty k] {k' : Nat} [AggOf P ty k']  (hv : (l.drop o).take k = vs) (hx : ev ρ x = .agg l.toArray := by rfl) :
    (execOp (ev ρ) ⟨some d, .field s x i, T, p, af, gd⟩).run P w = .ok (.value (.agg vs.toArray)) w := by
  obtain ⟨fs, hu, f, h1, h2, h3, h4, h5⟩ := hf.out
  subst h2 h3 hv
  simp [execOp, hx, Instr.field, run_underlying hu, h1, part, asAgg, run_isAgg_t, run_sizeOf_of h4]
theorem x_idxS {t e k b : Nat} {z : List Value} {x y : Operand} {ik : IntKind} {i : Int} {g off len cap j off' : Nat} [hs : SlOf P t e z k b]  (hx : ev ρ x = .slice (some ⟨g, off, none⟩) len cap := by rfl) (hy : ev ρ y = .int ik i := by rfl) (hj : i.toNat = j := by conv => lhs; first | simp only [Int.toNat_natCast, Int.reduceToNat, Int.toNat_natCast_add_one] | skip) (h0 : 0 ≤ i := by omega) (hlt : j < len := by omega) (ho : off + j * k = off' := by conv => lhs; first | simp only [Nat.mul_one, Nat.zero_add, Nat.add_zero, Nat.reduceAdd, Nat.reduceMul] | skip)
    :
    (execOp (ev ρ) ⟨some d, .indexAddr t x y, T, p, af, gd⟩).run P w = .ok (.value (.pointer (some ⟨g, off', none⟩))) w := by
  have hi := hs.info
  have hsz : (P.info? e).map (·.size) = some k := by
    cases hq : P.info? e with
    | none => simp [hq] at hi
    | some i => simp [hq] at hi; simp [hi]
  subst ho
  obtain rfl : i = (j : Int) := by omega
  simp [execOp, hx, hy, Instr.indexAt, asIntOf, run_underlying hs.und, run_sizeOf_of hsz, addr_add, hlt]
theorem x_idxA {t e k m : Nat} {x y : Operand} {ik : IntKind} {i : Int} {g off j off' : Nat} [hs : ArrOf P t m e k]  (hx : ev ρ x = .pointer (some ⟨g, off, none⟩) := by rfl) (hy : ev ρ y = .int ik i := by rfl) (hj : i.toNat = j := by conv => lhs; first | simp only [Int.toNat_natCast, Int.reduceToNat, Int.toNat_natCast_add_one] | skip) (h0 : 0 ≤ i := by omega) (hlt : j < m := by omega) (ho : off + j * k = off' := by conv => lhs; first | simp only [Nat.mul_one, Nat.zero_add, Nat.add_zero, Nat.reduceAdd, Nat.reduceMul] | skip)
    :
    (execOp (ev ρ) ⟨some d, .indexAddr t x y, T, p, af, gd⟩).run P w = .ok (.value (.pointer (some ⟨g, off', none⟩))) w := by
  subst ho
  obtain rfl : i = (j : Int) := by omega
  simp [execOp, hx, hy, Instr.indexAt, Instr.sureAddr, asIntOf, run_underlying hs.und, run_sizeOf_of hs.size, addr_add, hlt]
theorem x_len {x : Operand} {ty e k b : Nat} {z : List Value} {a : Option Addr} {len cap : Nat} {dst : Option Nat} [hs : SlOf P ty e z k b]  (hx : ev ρ x = .slice a len cap := by rfl) :
    (execOp (ev ρ) ⟨dst, .call { callee := .builtin .len, args := #[x], argTypes := #[ty] }, T, p, af, gd⟩).run P w = .ok (.value (.int .i64 len)) w := (by simp [execOp, resolve, invoke, builtin, hx, Builtin.len_, run_underlying hs.und, goInt])
theorem x_lenStr {x : Operand} {ty : Nat} {s : ByteArray} {dst : Option Nat} [hs : StrOf P ty]  (hx : ev ρ x = .string s := by rfl) :
    (execOp (ev ρ) ⟨dst, .call { callee := .builtin .len, args := #[x], argTypes := #[ty] }, T, p, af, gd⟩).run P w = .ok (.value (.int .i64 s.size)) w := (by simp [execOp, resolve, invoke, builtin, hx, Builtin.len_, run_underlying hs.und, goInt])
theorem x_sliceArr {ty m e k : Nat} {x : Operand} {g off : Nat} [hs : ArrOf P ty m e k]  (hx : ev ρ x = .pointer (some ⟨g, off, none⟩) := by rfl) :
    (execOp (ev ρ) ⟨some d, .slice ty x none none none, T, p, af, gd⟩).run P w = .ok (.value (.slice (some ⟨g, off, none⟩) m m)) w := (by simp [execOp, hx, Instr.sliceAt, Instr.sureAddr, run_underlying hs.und, run_sizeOf_of hs.size, Instr.sliceBounds, addr_add])
end
end Go.Proofs.Ytbdkicmdidcdcaa
namespace Go.Proofs.Ytbdkicmdidcdcaa
open Go.RowKit

/-- A result variable holds v. -/
def rvRun (n : Nat) (ρ : Env) : ResultVar → Sem Value
  | .tmp t => pure ((act n ρ).tmps.getD t undef)
  | .cell a t => do loadVar t (← asAddr ((act n ρ).tmps.getD a undef))
def RV (P : Program) (n : Nat) (ρ : Env) (w : World) (r : ResultVar) (v : Value) : Prop := (rvRun n ρ r).run P w = .ok v w
inductive RVs (P : Program) (n : Nat) (ρ : Env) (w : World) : List ResultVar → List Value → Prop
  | nil : RVs P n ρ w [] []
  | cons {r : ResultVar} {v : Value} {rs : List ResultVar} {vs : List Value} : RV P n ρ w r v → RVs P n ρ w rs vs → RVs P n ρ w (r :: rs) (v :: vs)
theorem run_mapM_rv {P : Program} {n : Nat} {ρ : Env} {w : World} : ∀ {rs : List ResultVar} {vs : List Value}, RVs P n ρ w rs vs → (rs.mapM (rvRun n ρ)).run P w = .ok vs w
  | [], [], _ => by simp
  | r :: rs, v :: vs, .cons h1 h2 => by
    have := run_mapM_rv h2
    unfold RV at h1
    simp [List.mapM_cons, h1, this]
theorem run_results {P : Program} {fn : Func} {n : Nat} {ρ : Env} {w : World} {rs : List ResultVar} {vs : List Value} (h : fn.results = rs.toArray) (hv : RVs P n ρ w rs vs) :
    (results fn (act n ρ).tmps).run P w = .ok (if h : vs.toArray.size = 1 then vs.toArray[0] else .tuple vs.toArray) w := by
  have hm : fn.results.mapM (rvRun n ρ) = (List.toArray <$> rs.mapM (rvRun n ρ)) := by rw [h]; simp
  have hr : results fn (act n ρ).tmps = (do let vs ← fn.results.mapM (rvRun n ρ); pure (if h : vs.size = 1 then vs[0] else .tuple vs)) := by
    unfold results
    congr 1
  rw [hr, hm]
  simp [run_mapM_rv hv]
section
variable {P : Program} {n : Nat} {ρ : Env} {w : World} {S : Nat → Prop} {w0 : World} {L M : List Res}
theorem rv_tmp {t : Nat} {v : Value} (hv : ρ t = v := by conv => lhs; whnf) (ht : Nat.blt t n = true := by rfl) : RV P n ρ w (.tmp t) v := by
  subst hv
  show (pure ((act n ρ).tmps.getD t undef) : Sem Value).run P w = _
  rw [act_getD ht]; rfl
theorem rv_agg {t ty k g : Nat} {tt : TypeId} {l : List Value} {fz : Nat × Nat} [ha : AggOf P ty k] (H : St S w0 L w) (hp : ρ t = .pointer (some ⟨g, 0, none⟩) := by rfl)
    (htk : Take L (.pt g (.cells l.toArray tt fz)) M := by first | exact .z | exact .s .z | exact .s (.s .z) | exact .s (.s (.s .z)) | exact .s (.s (.s (.s .z))) | exact .s (.s (.s (.s (.s .z)))) | exact .s (.s (.s (.s (.s (.s .z))))) | exact .s (.s (.s (.s (.s (.s (.s .z)))))))
    (hl : l.length = k := by first | rfl | assumption | (simp [bs_length, *] <;> fail) | omega) (ht : Nat.blt t n = true := by rfl) : RV P n ρ w (.cell t ty) (.agg l.toArray) := by
  obtain ⟨d, hu, hd, hs⟩ := ha.out
  show (do loadVar ty (← asAddr ((act n ρ).tmps.getD t undef))).run P w = _
  rw [act_getD ht, hp]
  have := run_loadVar_row (P := P) w g tt ty l.toArray fz d (H.blk htk) hu (by cases d <;> simp_all [TypeDesc.wide]) (by rw [hs]; simp [hl])
  simpa [asAddr] using this
theorem rv_cell {t ty g : Nat} {tt : TypeId} {l : List Value} {v : Value} {fz : Nat × Nat} [ha : CellOf P ty] (H : St S w0 L w) (hp : ρ t = .pointer (some ⟨g, 0, none⟩) := by rfl)
    (htk : Take L (.pt g (.cells l.toArray tt fz)) M := by first | exact .z | exact .s .z | exact .s (.s .z) | exact .s (.s (.s .z)) | exact .s (.s (.s (.s .z))) | exact .s (.s (.s (.s (.s .z)))) | exact .s (.s (.s (.s (.s (.s .z))))) | exact .s (.s (.s (.s (.s (.s (.s .z)))))))
    (hv : l[0]? = some v := by rfl) (ht : Nat.blt t n = true := by rfl) : RV P n ρ w (.cell t ty) v := by
  show (do loadVar ty (← asAddr ((act n ρ).tmps.getD t undef))).run P w = _
  rw [act_getD ht, hp]
  have := run_loadVar_cell (P := P) (t := ty) (w := w) (a := ⟨g, 0, none⟩) (v := v) (by rw [cell_of_row _ _ _ _ _ _ (H.blk htk)]; simpa using hv)
  simpa [asAddr] using this
variable {fn : Func} {R : Ending → World → Prop}
theorem retN0 (hR : R (.returned (.tuple #[])) w) (h : fn.results = #[] := by rfl) : rets P fn R .normal ρ w := rets0 h hR
theorem ret0 (hR : R (.returned (.tuple #[])) w) (h : fn.results = #[] := by rfl) : rets P fn R .ret ρ w := rets0 h hR
theorem ret1 {r : ResultVar} {v : Value} (h : fn.results = #[r]) (h1 : RV P fn.ntmps ρ w r v) (hR : R (.returned v) w) : rets P fn R .ret ρ w :=
  ⟨v, run_results (rs := [r]) (vs := [v]) h (.cons h1 .nil), hR⟩
theorem ret2 {r s : ResultVar} {v u : Value} (h : fn.results = #[r, s]) (h1 : RV P fn.ntmps ρ w r v) (h2 : RV P fn.ntmps ρ w s u) (hR : R (.returned (.tuple #[v, u])) w) : rets P fn R .ret ρ w :=
  ⟨_, run_results (rs := [r, s]) (vs := [v, u]) h (.cons h1 (.cons h2 .nil)), hR⟩
theorem ret3 {r s t : ResultVar} {v u x : Value} (h : fn.results = #[r, s, t]) (h1 : RV P fn.ntmps ρ w r v) (h2 : RV P fn.ntmps ρ w s u) (h3 : RV P fn.ntmps ρ w t x) (hR : R (.returned (.tuple #[v, u, x])) w) : rets P fn R .ret ρ w :=
  ⟨_, run_results (rs := [r, s, t]) (vs := [v, u, x]) h (.cons h1 (.cons h2 (.cons h3 .nil))), hR⟩
end
end Go.Proofs.Ytbdkicmdidcdcaa
namespace Go.Proofs.Ytbdkicmdidcdcaa
open Go.RowKit

section
open Go.Builtin
def zstr (n : Nat) : ByteArray := ⟨Array.replicate n 0⟩
theorem run_append_make {P : Program} (w : World) (t ti ts ty e : TypeId) (i : TypeInfo) (ki kn : IntKind) (ht : P.underlying t = some (.slice e)) (hti : P.underlying ti = some (.int ki)) (hts : P.underlying ts = some .string) (hi : P.info? e = some i)
    (u : Value) (hz : i.zero = some u) (hcu : u.cells = #[.int .u8 0]) (hsz : i.size = 1) (hby : i.bytes = 1) (base : Option Addr) (len cap n : Nat) (hb : len + n ≤ 100000000000) :
    (Builtin.append_ #[t, ti] ty #[.slice base len cap, .int kn (n : Int)]).run P w = (Builtin.append_ #[t, ts] ty #[.slice base len cap, .string (zstr n)]).run P w := by
  have hw : IntKind.i64.wrap (n : Int) = n := IntWalk.i64_in _ ⟨by omega, by omega⟩
  have hzA : Builtin.zeroCells #[Value.int .u8 0] n = Array.replicate n (Value.int .u8 0) := by
    apply Array.ext
    · simp [Builtin.zeroCells]
    · intro j h1 h2
      simp [Builtin.zeroCells, Nat.mod_one]
  have hsA : (Array.map (fun b : UInt8 => Value.int .u8 (b.toNat : Int)) (zstr n).data).extract 0 n = Array.replicate n (Value.int .u8 0) := by simp [zstr]
  have hsL : List.take n (List.map (fun b : UInt8 => Value.int .u8 (b.toNat : Int)) (zstr n).data.toList) = List.replicate n (Value.int .u8 0) := by simp [zstr]
  have hfit : cap < len + n → ¬ 281474976710656 < nextslicecap (len + n) cap := fun h => by
    have := growslice_fits (need := len + n) (old := cap) (bytes := 1) h (by omega)
    omega
  have h63 : ¬ (9223372036854775807 : Int) < (len : Int) + n := by omega
  have hn0 : ¬ (n : Int) < 0 := by omega
  have hn1 : ¬ (281474976710656 : Int) < (n : Int) := by omega
  have hzs : (zstr n).size = n := by simp [zstr, ByteArray.size]
  by_cases hroom : len + n ≤ cap
  · simp [append_, run_underlying ht, run_underlying hti, run_underlying hts, sizeOf, typeInfo, hi, hz, hsz, hby, hw, lenOf, asInt, asIntOf, hcu, zeroValue, hn0, hn1, hzs, hroom, firstCells]
    by_cases hn : n = 0
    · subst hn; simp
    · simp [hn, hzA, hsL]
  · have := hfit (by omega)
    simp [append_, run_underlying ht, run_underlying hti, run_underlying hts, sizeOf, typeInfo, hi, hz, hsz, hby, hw, lenOf, asInt, asIntOf, hcu, zeroValue, hn0, hn1, hzs, hroom, firstCells, h63, this]
    by_cases hn : n = 0
    · subst hn; simp
    · simp [hn, hzA, hsA]
end

section
variable {P : Program} {n : Nat} {Q : Post} {ρ : Env} {w : World} {ops : Array Oper} {rest : List Oper} {d : Nat} {T : TypeId} {p : String} {af : Array Edge} {gd : Option (Nat × Bool)}
variable {S : Nat → Prop} {w0 : World} {L M M' : List Res}

/-- Nothing, as a slice that may be appended to. -/
theorem St.nilSl (H : St S w0 L w) (s : Nat) : St S w0 (.sl s (.slice none 0 0) 0 [] :: L) w :=
  H.new (M := [.sl s (.slice none 0 0) 0 []]) (G := fun _ => False) (Fr.refl _ _) (Sep.one ⟨fun k => by simp [Value.ownBlock], Ow.nil _ _ _⟩) fun _ a => a.elim
theorem St.nilB (H : St S w0 L w) : St S w0 (bsl (.slice none 0 0) [] :: L) w := H.nilSl 1
/-- A whole block, as a slice that may be appended to. -/
theorem St.asSl {g : Nat} {l : List Value} {t : TypeId} {fz : Nat × Nat} (H : St S w0 (.pt g (.cells l.toArray t fz) :: L) w) (s m : Nat) (hl : l.length = m * s) (hm : m ≤ 1000000000) (h1 : ∀ u ∈ l, u.oneCell' = true) : St S w0 (.sl s (.slice (some ⟨g, 0, none⟩) m m) m l :: L) w :=
  H.open (M := [.sl s (.slice (some ⟨g, 0, none⟩) m m) m l]) fun F ⟨a, b⟩ => Sep.one ⟨fun k => by rw [a]; simp [Value.ownBlock, eq_comm], hl, h1, .inr ⟨g, 0, m, _, t, fz, rfl, b, by simp; exact List.take_of_length_le (by omega), Nat.le_refl _, by unfold maxLen; omega, .inl rfl⟩⟩
theorem St.asB {g : Nat} {l : List UInt8} {t : TypeId} {fz : Nat × Nat} (H : St S w0 (.pt g (.cells (bs l).toArray t fz) :: L) w) (m : Nat) (hl : l.length = m) (hm : m ≤ 1000000000) : St S w0 (bsl (.slice (some ⟨g, 0, none⟩) m m) l :: L) w := by
  subst hl
  exact H.asSl 1 l.length (by rw [bs_length]; omega) hm bs_one
theorem St.rbB {v : Value} {l : List UInt8} (H : St S w0 L w) (t : Take L (bsl v l) M) : RB w v l := (H.slc t).rd
theorem St.rbR {v : Value} {l : List UInt8} (H : St S w0 L w) (t : Take L (brd v l) M) : RB w v l := H.rdc t
theorem St.rbC {g m : Nat} {l : List UInt8} {t : TypeId} {fz : Nat × Nat} (H : St S w0 L w) (t' : Take L (.pt g (.cells (bs l).toArray t fz)) M) (hl : l.length = m) (hm : m ≤ 1000000000) : RB w (.slice (some ⟨g, 0, none⟩) m m) l := RB.of_heap m (H.blk t') hl hm

theorem St.app {base s : Nat} {v v' : Value} {m m' : Nat} {xs ys : List Value} {w' : World} (H : St S w0 (.sl s v m xs :: L) w) (h : Ow base s w' v' m' ys) (hg : w.grownBy w' v.ownBlock) (ho : v'.ownBlock = v.ownBlock ∨ ∃ k, v'.ownBlock = some k ∧ w.heap.size ≤ k) (hb : base = 0) :
    St S w0 (.sl s v' m' ys :: L) w' := by
  subst hb
  refine H.upd (M := [.sl s v' m' ys]) fun F ⟨hF, _⟩ => ⟨fun k => v'.ownBlock = some k, Sep.one ⟨fun _ => Iff.rfl, h⟩, (Fr.of_grown hg).mono fun k _ e => (hF k).2 e.symm, fun k hk => ?_⟩
  rcases ho with e | ⟨j, e, hj⟩
  · exact .inl ((hF k).2 (e ▸ hk))
  · rw [e] at hk
    injection hk with hk
    exact .inr (by omega)
/-- 'append'. -/
theorem q_append {t tx e k b m m' : Nat} {z : List Value} {a x : Operand} {v xv : Value} {xs news : List Value} [hs : SlOf P t e z k b] (H : St S w0 L w) (src : Src P k tx xv m' news w)
    (h : ∀ v' w', St S w0 (.sl k v' (m + m') (xs ++ news) :: M) w' → (v' = .slice none 0 0 ↔ v = .slice none 0 0 ∧ m' = 0) → LW P n ops Q rest (upd ρ d v') w')
    (ha : ev ρ a = v := by conv => lhs; whnf) (hx : ev ρ x = xv := by rfl)
    (htk : Take L (.sl k v m xs) M := by first | exact .z | exact .s .z | exact .s (.s .z) | exact .s (.s (.s .z)) | exact .s (.s (.s (.s .z))) | exact .s (.s (.s (.s (.s .z)))) | exact .s (.s (.s (.s (.s (.s .z))))) | exact .s (.s (.s (.s (.s (.s (.s .z)))))))
    (h63 : m + m' ≤ 100000000000 := by omega) (hbb : b ≤ 1000 := by decide) (hd : Nat.blt d n = true := by rfl) (hw : Wanted ops ρ gd := by first | exact .none | exact .some ⟨_, rfl, rfl⟩) :
    LW P n ops Q (⟨some d, .call { callee := .builtin .append, args := #[a, x], argTypes := #[t, tx] }, T, p, af, gd⟩ :: rest) ρ w := by
  have hi := hs.info
  cases hq : P.info? e with
  | none => simp [hq] at hi
  | some i =>
    simp only [hq, Option.map_some, Option.some.injEq, Prod.mk.injEq] at hi
    obtain ⟨hz, hk, hb⟩ := hi
    cases hq2 : i.zero with
    | none => simp [hq2] at hz
    | some u =>
      have hc : u.cells = z.toArray := by simpa [hq2] using hz
      have H' := H.take htk
      have hzs : u.cells.size = k := by rw [hc]; simpa using hs.zl
      have hmb : (m + m') * b ≤ 100000000000 * 1000 := Nat.mul_le_mul h63 hbb
      obtain ⟨v', w', hr, h2, h3, h4, h5⟩ := run_append_ow (P := P) t tx T e i u b hs.und hq hq2 hk hb hzs (H'.slc .z) xv m' news src (by unfold maxLen; omega) (by omega) (Nat.zero_le _)
      refine lw_value hw hd (v := v') (w' := w') ?_ (h v' w' (H'.app h2 h3 h4 rfl) h5)
      simp only [execOp, resolve, invoke, builtin, Sem.run_bind, Sem.run_pure, Result.andThen_ok, List.map_toArray, List.map_cons, List.map_nil, ha, hx, hr]
/-- 'append' of bytes. -/
theorem q_appB {t tx e b : Nat} {z : List Value} {a x : Operand} {v xv : Value} {l m : List UInt8} [hs : SlOf P t e z 1 b] (H : St S w0 L w) (src : Src P 1 tx xv m.length (bs m) w)
    (h : ∀ v' w', St S w0 (bsl v' (l ++ m) :: M) w' → (v' = .slice none 0 0 ↔ v = .slice none 0 0 ∧ m.length = 0) → LW P n ops Q rest (upd ρ d v') w')
    (ha : ev ρ a = v := by conv => lhs; whnf) (hx : ev ρ x = xv := by rfl)
    (htk : Take L (bsl v l) M := by first | exact .z | exact .s .z | exact .s (.s .z) | exact .s (.s (.s .z)) | exact .s (.s (.s (.s .z))) | exact .s (.s (.s (.s (.s .z)))) | exact .s (.s (.s (.s (.s (.s .z))))) | exact .s (.s (.s (.s (.s (.s (.s .z)))))))
    (h63 : l.length + m.length ≤ 100000000000 := by first | omega | (simp only [List.length_append, List.length_cons, List.length_nil]; omega)) (hbb : b ≤ 1000 := by decide) (hd : Nat.blt d n = true := by rfl) (hw : Wanted ops ρ gd := by first | exact .none | exact .some ⟨_, rfl, rfl⟩) :
    LW P n ops Q (⟨some d, .call { callee := .builtin .append, args := #[a, x], argTypes := #[t, tx] }, T, p, af, gd⟩ :: rest) ρ w :=
  q_append H src (fun v' w' h1 h2 => h v' w' (by have e : (l ++ m).length = l.length + m.length := List.length_append; unfold bsl; rw [e, bs_append]; exact h1) h2) ha hx htk h63 hbb hd hw
/-- .. of slices of bytes that are read. -/
theorem q_appR {t tx e e' b b' : Nat} {z z' : List Value} {a x : Operand} {v xv : Value} {l m : List UInt8} [hs : SlOf P t e z 1 b] [hs' : SlOf P tx e' z' 1 b'] (H : St S w0 L w) (src : RB w xv m)
    (h : ∀ v' w', St S w0 (bsl v' (l ++ m) :: M) w' → (v' = .slice none 0 0 ↔ v = .slice none 0 0 ∧ m.length = 0) → LW P n ops Q rest (upd ρ d v') w')
    (ha : ev ρ a = v := by conv => lhs; whnf) (hx : ev ρ x = xv := by rfl)
    (htk : Take L (bsl v l) M := by first | exact .z | exact .s .z | exact .s (.s .z) | exact .s (.s (.s .z)) | exact .s (.s (.s (.s .z))) | exact .s (.s (.s (.s (.s .z)))) | exact .s (.s (.s (.s (.s (.s .z))))) | exact .s (.s (.s (.s (.s (.s (.s .z)))))))
    (h63 : l.length + m.length ≤ 100000000000 := by first | omega | (simp only [List.length_append, List.length_cons, List.length_nil]; omega)) (hbb : b ≤ 1000 := by decide) (hd : Nat.blt d n = true := by rfl) (hw : Wanted ops ρ gd := by first | exact .none | exact .some ⟨_, rfl, rfl⟩) :
    LW P n ops Q (⟨some d, .call { callee := .builtin .append, args := #[a, x], argTypes := #[t, tx] }, T, p, af, gd⟩ :: rest) ρ w := q_appB H (RB.src hs'.und src) h ha hx htk h63 hbb hd hw
/-- Cells that are bytes. -/
inductive BsOf : List Value → List UInt8 → Prop
  | nil : BsOf [] []
  | cons {b : UInt8} {xs : List Value} {m : List UInt8} : BsOf xs m → BsOf (.int .u8 (by8 b) :: xs) (b :: m)
  | lit {k : Nat} {xs : List Value} {m : List UInt8} : k < 256 → BsOf xs m → BsOf (.int .u8 (k : Int) :: xs) (UInt8.ofNat k :: m)
theorem BsOf.eq {xs : List Value} {m : List UInt8} (h : BsOf xs m) : xs = bs m := by
  induction h with
  | nil => rfl
  | cons _ ih => rw [ih]; rfl
  | @lit k _ m hk _ ih =>
    rw [ih]
    show _ = Value.int .u8 (by8 (UInt8.ofNat k)) :: bs m
    congr 2
    unfold by8
    rw [UInt8.toNat_ofNat']
    omega
/-- .. of bytes that were put side by side for it (they are let go). -/
theorem q_appT {t tx e e' b b' g k : Nat} {z z' : List Value} {tt : TypeId} {a x : Operand} {v : Value} {l m : List UInt8} {xs : List Value} [hs : SlOf P t e z 1 b] [hs' : SlOf P tx e' z' 1 b'] (H : St S w0 L w)
    (h : ∀ v' w', St S w0 (bsl v' (l ++ m) :: M) w' → LW P n ops Q rest (upd ρ d v') w')
    (ha : ev ρ a = v := by conv => lhs; whnf) (hx : ev ρ x = .slice (some ⟨g, 0, none⟩) k k := by rfl)
    (htx : Take L (cells g xs tt) M' := by first | exact .z | exact .s .z | exact .s (.s .z) | exact .s (.s (.s .z)) | exact .s (.s (.s (.s .z))) | exact .s (.s (.s (.s (.s .z)))) | exact .s (.s (.s (.s (.s (.s .z))))) | exact .s (.s (.s (.s (.s (.s (.s .z))))))) (hxs : BsOf xs m := by repeat (first | exact BsOf.nil | apply BsOf.cons | apply BsOf.lit | decide)) (hk : m.length = k := by rfl) (hk9 : k ≤ 1000000000 := by decide)
    (htk : Take M' (bsl v l) M := by first | exact .z | exact .s .z | exact .s (.s .z) | exact .s (.s (.s .z)) | exact .s (.s (.s (.s .z))) | exact .s (.s (.s (.s (.s .z)))) | exact .s (.s (.s (.s (.s (.s .z))))) | exact .s (.s (.s (.s (.s (.s (.s .z)))))))
    (h63 : l.length + m.length ≤ 100000000000 := by first | omega | (simp only [List.length_append, List.length_cons, List.length_nil]; omega)) (hbb : b ≤ 1000 := by decide) (hd : Nat.blt d n = true := by rfl) (hw : Wanted ops ρ gd := by first | exact .none | exact .some ⟨_, rfl, rfl⟩) :
    LW P n ops Q (⟨some d, .call { callee := .builtin .append, args := #[a, x], argTypes := #[t, tx] }, T, p, af, gd⟩ :: rest) ρ w := by
  obtain rfl := hxs.eq
  exact q_appR ((H.take htx).drop) (H.rbC htx hk hk9) (fun v' w' h1 _ => h v' w' h1) ha hx htk h63 hbb hd hw
/-- .. of a string. -/
theorem q_appS {t tx e b : Nat} {z : List Value} {a x : Operand} {v : Value} {s : ByteArray} {l : List UInt8} [hs : SlOf P t e z 1 b] [hs' : StrOf P tx] (H : St S w0 L w)
    (h : ∀ v' w', St S w0 (bsl v' (l ++ s.data.toList) :: M) w' → (v' = .slice none 0 0 ↔ v = .slice none 0 0 ∧ s.data.toList.length = 0) → LW P n ops Q rest (upd ρ d v') w')
    (ha : ev ρ a = v := by conv => lhs; whnf) (hx : ev ρ x = .string s := by rfl)
    (htk : Take L (bsl v l) M := by first | exact .z | exact .s .z | exact .s (.s .z) | exact .s (.s (.s .z)) | exact .s (.s (.s (.s .z))) | exact .s (.s (.s (.s (.s .z)))) | exact .s (.s (.s (.s (.s (.s .z))))) | exact .s (.s (.s (.s (.s (.s (.s .z)))))))
    (h63 : l.length + s.data.toList.length ≤ 100000000000 := by first | omega | (simp only [List.length_append, List.length_cons, List.length_nil]; omega)) (hbb : b ≤ 1000 := by decide) (hd : Nat.blt d n = true := by rfl) (hw : Wanted ops ρ gd := by first | exact .none | exact .some ⟨_, rfl, rfl⟩) :
    LW P n ops Q (⟨some d, .call { callee := .builtin .append, args := #[a, x], argTypes := #[t, tx] }, T, p, af, gd⟩ :: rest) ρ w := q_appB H (Src.text hs'.und s w) h ha hx htk h63 hbb hd hw
/-- .. of so many noughts. -/
theorem q_app0 {t ti e : Nat} {ki kn : IntKind} {a x : Operand} {v : Value} {l : List UInt8} {c : Int} [hs : SlOf P t e [.int .u8 0] 1 1] [hi' : IntOf P ti ki] (m ts : Nat) [hst : StrOf P ts] (H : St S w0 L w)
    (h : ∀ v' w', St S w0 (bsl v' (l ++ List.replicate m 0) :: M) w' → (v' = .slice none 0 0 ↔ v = .slice none 0 0 ∧ m = 0) → LW P n ops Q rest (upd ρ d v') w')
    (ha : ev ρ a = v := by conv => lhs; whnf) (hx : ev ρ x = .int kn c := by rfl) (hm : c = (m : Int) := by omega)
    (htk : Take L (bsl v l) M := by first | exact .z | exact .s .z | exact .s (.s .z) | exact .s (.s (.s .z)) | exact .s (.s (.s (.s .z))) | exact .s (.s (.s (.s (.s .z)))) | exact .s (.s (.s (.s (.s (.s .z))))) | exact .s (.s (.s (.s (.s (.s (.s .z)))))))
    (h63 : l.length + m ≤ 100000000000 := by first | omega | (simp only [List.length_append, List.length_cons, List.length_nil]; omega)) (hd : Nat.blt d n = true := by rfl) (hw : Wanted ops ρ gd := by first | exact .none | exact .some ⟨_, rfl, rfl⟩) :
    LW P n ops Q (⟨some d, .call { callee := .builtin .append, args := #[a, x], argTypes := #[t, ti] }, T, p, af, gd⟩ :: rest) ρ w := by
  subst hm
  have hi := hs.info
  cases hq : P.info? e with
  | none => simp [hq] at hi
  | some i =>
    simp only [hq, Option.map_some, Option.some.injEq, Prod.mk.injEq] at hi
    obtain ⟨hz, hk, hb⟩ := hi
    cases hq2 : i.zero with
    | none => simp [hq2] at hz
    | some u =>
      have hc : u.cells = #[Value.int .u8 0] := by simpa [hq2] using hz
      have H' := H.take htk
      have hO := H'.slc .z
      have key : ∃ base len cap, v = .slice base len cap ∧ len = l.length := by
        rcases hO.rd.shape with ⟨h1, h2, _⟩ | ⟨g, off, cap, h1, _⟩
        · exact ⟨_, _, _, h1, h2.symm⟩
        · exact ⟨_, _, _, h1, rfl⟩
      obtain ⟨base, len, cap, hv, hlen⟩ := key
      have hzl : (zstr m).data.toList = List.replicate m 0 := by simp [zstr]
      have src : Src P 1 ts (.string (zstr m)) m (bs (List.replicate m 0)) w := by
        have := Src.text (P := P) hst.und (zstr m) w
        rw [hzl] at this
        simpa using this
      have h1 : (bsl v l) = .sl 1 v l.length (bs l) := rfl
      obtain ⟨v', w', hr, h2, h3, h4, h5⟩ := run_append_ow (P := P) t ts T e i u 1 hs.und hq hq2 hk hb (by rw [hc]; rfl) hO (.string (zstr m)) m (bs (List.replicate m 0)) src (by unfold maxLen; omega) (by omega) (Nat.zero_le _)
      refine lw_value hw hd (v := v') (w' := w') ?_ (h v' w' ?_ h5)
      · subst hlen
        rw [hv] at hr
        have := run_append_make (P := P) w t ti ts T e i ki kn hs.und hi'.und hst.und hq u hq2 hc hk hb base l.length cap m (by omega)
        simp only [execOp, resolve, invoke, builtin, Sem.run_bind, Sem.run_pure, Result.andThen_ok, List.map_toArray, List.map_cons, List.map_nil, ha, hx, hv, this, hr]
      · have e1 : (l ++ List.replicate m 0).length = l.length + m := by simp
        unfold bsl
        rw [e1, bs_append]
        exact H'.app h2 h3 h4 rfl
end
end Go.Proofs.Ytbdkicmdidcdcaa
namespace Go.Proofs.Ytbdkicmdidcdcaa
open Go.RowKit

section
variable {P : Program} {n : Nat} {Q : Post} {ρ : Env} {w : World} {ops : Array Oper} {rest : List Oper} {d : Nat} {T : TypeId} {p : String} {af : Array Edge} {gd : Option (Nat × Bool)}
variable {S : Nat → Prop} {w0 : World} {L M M' : List Res}

/-- 'copy' of bytes. -/
theorem q_copyB {t tx e b : Nat} {z : List Value} {a x : Operand} {g off m cap : Nat} {xv : Value} {cur l : List UInt8} {tt : TypeId} {dst : Option Nat} [hs : SlOf P t e z 1 b] (H : St S w0 L w) (src : RB w xv l)
    (h : ∀ w', St S w0 (cells g (bs (over cur off m l)) tt :: M) w' → LW P n ops Q rest (pu ρ dst (.int .i64 (min l.length m : Nat))) w')
    (ha : ev ρ a = .slice (some ⟨g, off, none⟩) m cap := by rfl) (hx : ev ρ x = xv := by rfl)
    (htk : Take L (cells g (bs cur) tt) M := by first | exact .z | exact .s .z | exact .s (.s .z) | exact .s (.s (.s .z)) | exact .s (.s (.s (.s .z))) | exact .s (.s (.s (.s (.s .z)))) | exact .s (.s (.s (.s (.s (.s .z))))) | exact .s (.s (.s (.s (.s (.s (.s .z)))))))
    (hf : off + m ≤ cur.length := by first | omega | (simp [*] <;> fail) | (simp [*]; omega)) (hd : within n dst = true := by rfl) (hw : Wanted ops ρ gd := by first | exact .none | exact .some ⟨_, rfl, rfl⟩) :
    LW P n ops Q (⟨dst, .call { callee := .builtin .copy, args := #[a, x], argTypes := #[t, tx] }, T, p, af, gd⟩ :: rest) ρ w := by
  have hi := hs.info
  have H' := H.take htk
  obtain ⟨w', hr, h1, h2, h3, h4⟩ := run_copy_bytes (P := P) w t tx T e hs.und (by
    cases hq : P.info? e with
    | none => simp [hq] at hi
    | some i => simp [hq] at hi; simp [hi]) g off m cap cur tt (H'.blk .z) hf xv l src
  refine lw_value hw hd (v := .int .i64 (min l.length m : Nat)) (w' := w') ?_ (h w' (H'.store h1 h4))
  simp only [execOp, resolve, invoke, builtin, Sem.run_bind, Sem.run_pure, Result.andThen_ok, List.map_toArray, List.map_cons, List.map_nil, ha, hx, hr]

theorem made_bytes (m : Nat) : madeCells #[Value.int .u8 0] m = (bs (List.replicate m 0)).toArray := by
  apply Array.ext
  · simp [madeCells, bs]
  · intro i h1 h2
    simp [madeCells, bs, Nat.mod_one, by8]
/-- 'make' of bytes. -/
theorem q_makeB {t e : Nat} {x y : Operand} {kl kc : IntKind} {c c' : Int} {m : Nat} [hs : SlOf P t e [.int .u8 0] 1 1] (H : St S w0 L w)
    (h : ∀ g w', St S w0 (cells g (bs (List.replicate m 0)) e :: L) w' → LW P n ops Q rest (upd ρ d (.slice (some ⟨g, 0, none⟩) m m)) w')
    (hx : ev ρ x = .int kl c := by rfl) (hy : ev ρ y = .int kc c' := by rfl) (hm : c.toNat = m := by conv => lhs; first | simp only [Int.toNat_natCast, Int.reduceToNat, Int.toNat_natCast_add_one] | skip) (h0 : 0 ≤ c := by omega) (hcc : c' = c := by rfl)
    (hb : c ≤ 100000000000 := by omega) (hd : Nat.blt d n = true := by rfl) (hw : Wanted ops ρ gd := by first | exact .none | exact .some ⟨_, rfl, rfl⟩) :
    LW P n ops Q (⟨some d, .makeSlice t x y, T, p, af, gd⟩ :: rest) ρ w := by
  subst hcc hm
  have hi := hs.info
  cases hq : P.info? e with
  | none => simp [hq] at hi
  | some i =>
    simp only [hq, Option.map_some, Option.some.injEq, Prod.mk.injEq] at hi
    obtain ⟨hz, hk, hbb⟩ := hi
    cases hq2 : i.zero with
    | none => simp [hq2] at hz
    | some u =>
      have hc : u.cells = #[Value.int .u8 0] := by simpa [hq2] using hz
      refine lw_value hw hd (v := .slice (some ⟨w.heap.size, 0, none⟩) c'.toNat c'.toNat) (w' := w.alloc (.cells (bs (List.replicate c'.toNat 0)).toArray e)) ?_ (h _ _ (H.alloc _))
      have := run_make (P := P) w t e i u hs.und hq hq2 kl kc c' c' h0 (Int.le_refl _) (by rw [hbb]; omega) (by omega)
      rw [hk, Nat.mul_one, hc, made_bytes] at this
      simp only [execOp, hx, hy, Sem.run_bind, this, Result.andThen_ok, Sem.run_pure]

/-- A piece of a slice. -/
theorem Rd.sub {s : Nat} {v : Value} {m : Nat} {xs : List Value} {u : World} (h : Rd s u v m xs) (i j : Nat) (hij : i ≤ j) (hj : j ≤ m) {t e : TypeId} (hu : P.underlying t = some (.slice e)) (hsz : (P.info? e).map (·.size) = some s)
    (lo hi : Option Value) (hlo : (lo = none ∧ i = 0) ∨ ∃ k, lo = some (.int k (i : Int))) (hhi : (hi = none ∧ j = m) ∨ ∃ k, hi = some (.int k (j : Int))) :
    ∃ v', (∀ w, (Instr.sliceAt t v lo hi none).run P w = .ok v' w) ∧ (∀ w, Rd s w v m xs → Rd s w v' (j - i) ((xs.drop (i * s)).take ((j - i) * s))) ∧ v'.ownBlock = v.ownBlock := by
  rcases h.shape with ⟨rfl, rfl, rfl⟩ | ⟨g, off, cap, rfl, h1, h2, _⟩
  · obtain rfl : j = 0 := by omega
    obtain rfl : i = 0 := by omega
    refine ⟨.slice none 0 0, fun w => ?_, fun w _ => ?_, rfl⟩
    · have hb : (Instr.sliceBounds true 0 0 lo hi none).run P w = .ok (0, 0, 0) w := by
        unfold Instr.sliceBounds
        rcases hlo with ⟨rfl, _⟩ | ⟨k, rfl⟩ <;> rcases hhi with ⟨rfl, _⟩ | ⟨k', rfl⟩ <;> simp [Instr.sliceBound, asIntOf]
      unfold Instr.sliceAt
      simp only [Sem.run_bind, run_underlying hu, Result.andThen_ok]
      unfold Instr.slice
      simp only [Sem.run_bind, run_underlying hu, Result.andThen_ok, hb, run_sizeOf_of hsz, if_true, Sem.run_pure]
    · simpa using Rd.nil s w
  · have hb : ∀ w, (Instr.sliceBounds true m cap lo hi none).run P w = .ok (i, j, cap) w := fun w => by
      unfold Instr.sliceBounds
      have a1 : (i : Int) ≤ j := by omega
      have a2 : (j : Int) ≤ cap := by omega
      have a3 : ¬ cap < j := by omega
      have a4 : ¬ j < i := by omega
      rcases hlo with ⟨rfl, rfl⟩ | ⟨k, rfl⟩ <;> rcases hhi with ⟨rfl, rfl⟩ | ⟨k', rfl⟩ <;> simp [Instr.sliceBound, asIntOf, hij, a3]
    refine ⟨.slice (if cap = i then some ⟨g, off, none⟩ else some ⟨g, off + i * s, none⟩) (j - i) (cap - i), fun w => ?_, fun w hw => ?_, ?_⟩
    · unfold Instr.sliceAt
      simp only [Sem.run_bind, run_underlying hu, Result.andThen_ok]
      unfold Instr.slice
      simp only [Sem.run_bind, run_underlying hu, Result.andThen_ok, hb, run_sizeOf_of hsz, Sem.run_pure, Option.map_some, addr_add]
    · obtain ⟨k1, k2, ⟨k3, _⟩ | ⟨g', off', cap', cur, e', fz, hv, b, c, d, d'⟩⟩ := hw
      · cases k3
      obtain ⟨⟨rfl, rfl⟩, rfl⟩ : (g = g' ∧ off = off') ∧ cap = cap' := by simpa using hv
      have hle : (j - i) * s ≤ xs.length - i * s := by
        have e1 : j * s ≤ m * s := Nat.mul_le_mul_right _ hj
        rw [k1, Nat.sub_mul]; omega
      refine ⟨by rw [List.length_take, List.length_drop]; omega, fun u hu => k2 u (List.mem_of_mem_drop (List.mem_of_mem_take hu)), .inr ?_⟩
      by_cases hci : cap = i
      · have : j - i = 0 := by omega
        refine ⟨g, off, cap - i, cur, e', fz, by simp [hci], b, by rw [this]; simp, by omega, by omega⟩
      · refine ⟨g, off + i * s, cap - i, cur, e', fz, by simp [hci], b, ?_, by omega, by omega⟩
        rw [← c, ← List.drop_drop, List.drop_take, List.take_take]
        congr 1
        have e1 : (j - i) * s = j * s - i * s := Nat.sub_mul _ _ _
        have e2 : j * s ≤ m * s := Nat.mul_le_mul_right _ hj
        omega
    · split <;> rfl
theorem q_sub {t e k b i j m : Nat} {z : List Value} {x : Operand} {lo hi : Option Operand} {v : Value} {xs : List Value} {u : World} [hs : SlOf P t e z k b] (r : Rd k u v m xs) (hlo : (lo.map (ev ρ) = none ∧ i = 0) ∨ ∃ k, lo.map (ev ρ) = some (.int k (i : Int))) (hhi : (hi.map (ev ρ) = none ∧ j = m) ∨ ∃ k, hi.map (ev ρ) = some (.int k (j : Int)))
    (h : ∀ v', (∀ w, Rd k w v m xs → Rd k w v' (j - i) ((xs.drop (i * k)).take ((j - i) * k))) → v'.ownBlock = v.ownBlock → LW P n ops Q rest (upd ρ d v') w)
    (hx : ev ρ x = v := by rfl) (hij : i ≤ j := by omega) (hj : j ≤ m := by omega) (hd : Nat.blt d n = true := by rfl) (hw : Wanted ops ρ gd := by first | exact .none | exact .some ⟨_, rfl, rfl⟩) :
    LW P n ops Q (⟨some d, .slice t x lo hi none, T, p, af, gd⟩ :: rest) ρ w := by
  have hi' := hs.info
  obtain ⟨v', h1, h2, h3⟩ := r.sub (P := P) i j hij hj hs.und (by
    cases hq : P.info? e with
    | none => simp [hq] at hi'
    | some i => simp [hq] at hi'; simp [hi']) (lo.map (ev ρ)) (hi.map (ev ρ)) hlo hhi
  refine lw_value hw hd (v := v') (w' := w) ?_ (h v' h2 h3)
  simp only [execOp, hx, Sem.run_bind, Option.map_none, h1, Result.andThen_ok, Sem.run_pure]
theorem rb_sub {v v' : Value} {l : List UInt8} {i j : Nat} (h : ∀ w, Rd 1 w v l.length (bs l) → Rd 1 w v' (j - i) (((bs l).drop (i * 1)).take ((j - i) * 1))) (hj : j ≤ l.length) : ∀ w, RB w v l → RB w v' ((l.take j).drop i) := fun w r => by
  have := h w r
  unfold RB
  rw [Nat.mul_one, Nat.mul_one, ← bs_drop, ← bs_take] at this
  have e : (l.take j).drop i = (l.drop i).take (j - i) := by rw [List.drop_take]
  rw [e]
  have e2 : ((l.drop i).take (j - i)).length = j - i := by rw [List.length_take, List.length_drop]; omega
  rw [e2]; exact this
/-- A piece of bytes: from i on, up to j. -/
theorem q_subB {t e b : Nat} {z : List Value} {x lo hi : Operand} {v : Value} {l : List UInt8} {u : World} {kl kh : IntKind} {ci cj : Int} (i j : Nat) [hs : SlOf P t e z 1 b] (r : RB u v l)
    (h : ∀ v', (∀ w, RB w v l → RB w v' ((l.take j).drop i)) → v'.ownBlock = v.ownBlock → LW P n ops Q rest (upd ρ d v') w)
    (hx : ev ρ x = v := by rfl) (hlo : ev ρ lo = .int kl ci := by rfl) (hhi : ev ρ hi = .int kh cj := by rfl) (hi' : ci = (i : Int) := by first | rfl | omega) (hj' : cj = (j : Int) := by first | rfl | omega)
    (hij : i ≤ j := by omega) (hj : j ≤ l.length := by omega) (hd : Nat.blt d n = true := by rfl) (hw : Wanted ops ρ gd := by first | exact .none | exact .some ⟨_, rfl, rfl⟩) :
    LW P n ops Q (⟨some d, .slice t x (some lo) (some hi) none, T, p, af, gd⟩ :: rest) ρ w := by
  subst hi' hj'
  exact q_sub (i := i) (j := j) r (.inr ⟨kl, by simp [hlo]⟩) (.inr ⟨kh, by simp [hhi]⟩) (fun v' h1 h2 => h v' (rb_sub h1 hj) h2) hx hij hj hd hw
theorem q_fromB {t e b : Nat} {z : List Value} {x lo : Operand} {v : Value} {l : List UInt8} {u : World} {kl : IntKind} {ci : Int} (i : Nat) [hs : SlOf P t e z 1 b] (r : RB u v l)
    (h : ∀ v', (∀ w, RB w v l → RB w v' (l.drop i)) → v'.ownBlock = v.ownBlock → LW P n ops Q rest (upd ρ d v') w)
    (hx : ev ρ x = v := by rfl) (hlo : ev ρ lo = .int kl ci := by rfl) (hi' : ci = (i : Int) := by first | rfl | omega)
    (hij : i ≤ l.length := by omega) (hd : Nat.blt d n = true := by rfl) (hw : Wanted ops ρ gd := by first | exact .none | exact .some ⟨_, rfl, rfl⟩) :
    LW P n ops Q (⟨some d, .slice t x (some lo) none none, T, p, af, gd⟩ :: rest) ρ w := by
  subst hi'
  exact q_sub (i := i) (j := l.length) r (.inr ⟨kl, by simp [hlo]⟩) (.inl ⟨rfl, rfl⟩) (fun v' h1 h2 => h v' (by have := rb_sub h1 (Nat.le_refl _); simpa [List.take_length] using this) h2) hx hij (Nat.le_refl _) hd hw
theorem q_toB {t e b : Nat} {z : List Value} {x hi : Operand} {v : Value} {l : List UInt8} {u : World} {kh : IntKind} {cj : Int} (j : Nat) [hs : SlOf P t e z 1 b] (r : RB u v l)
    (h : ∀ v', (∀ w, RB w v l → RB w v' (l.take j)) → v'.ownBlock = v.ownBlock → LW P n ops Q rest (upd ρ d v') w)
    (hx : ev ρ x = v := by rfl) (hhi : ev ρ hi = .int kh cj := by rfl) (hj' : cj = (j : Int) := by first | rfl | omega)
    (hj : j ≤ l.length := by omega) (hd : Nat.blt d n = true := by rfl) (hw : Wanted ops ρ gd := by first | exact .none | exact .some ⟨_, rfl, rfl⟩) :
    LW P n ops Q (⟨some d, .slice t x none (some hi) none, T, p, af, gd⟩ :: rest) ρ w := by
  subst hj'
  exact q_sub (i := 0) (j := j) r (.inl ⟨rfl, rfl⟩) (.inr ⟨kh, by simp [hhi]⟩) (fun v' h1 h2 => h v' (by have := rb_sub h1 hj; simpa using this) h2) hx (Nat.zero_le _) hj hd hw

def str (l : List UInt8) : ByteArray := ⟨l.toArray⟩
/-- Bytes as a string. -/
theorem x_str {s t e b : Nat} {z : List Value} {x : Operand} {v : Value} {l : List UInt8} [hs : SlOf P s e z 1 b] [he : IntOf P e .u8] [ht : StrOf P t] (r : RB w v l) (hx : ev ρ x = v := by rfl) :
    (execOp (ev ρ) ⟨some d, .convert s t x, T, p, af, gd⟩).run P w = .ok (.value (.string (str l))) w := by
  have : (convert s t v).run P w = .ok (.string ⟨l.toArray⟩) w := by
    rcases Rd.shape r with ⟨rfl, hl, _⟩ | ⟨g, off, cap, rfl, h1, h2, _⟩
    · have hl : l = [] := List.eq_nil_of_length_eq_zero hl
      subst hl
      rw [run_convert_bytes_string w s t e none 0 0 hs.und he.und ht.und]; rfl
    · exact run_convert_bytes_back w s t e ⟨g, off, none⟩ cap l hs.und he.und ht.und fun j hj => by
        rw [addr_add]
        exact Rd.cellAt r j _ (by rw [bs_get]; simp [hj, by8])
  simp only [execOp, hx, Sem.run_bind, this, Result.andThen_ok, Sem.run_pure]; rfl
theorem q_str {s t e b : Nat} {z : List Value} {x : Operand} {v : Value} {l : List UInt8} [hs : SlOf P s e z 1 b] [he : IntOf P e .u8] [ht : StrOf P t] (r : RB w v l) (h : LW P n ops Q rest (upd ρ d (.string (str l))) w) (hx : ev ρ x = v := by rfl) (hd : Nat.blt d n = true := by rfl) (hw : Wanted ops ρ gd := by first | exact .none | exact .some ⟨_, rfl, rfl⟩) :
    LW P n ops Q (⟨some d, .convert s t x, T, p, af, gd⟩ :: rest) ρ w := lw_value hw hd (x_str r hx) h
/-- A string as bytes. -/
theorem q_bytes {s t e b : Nat} {z : List Value} {x : Operand} {sv : ByteArray} [hs : SlOf P t e z 1 b] [he : IntOf P e .u8] [ht : StrOf P s] (H : St S w0 L w) (h : ∀ v' w', St S w0 (brd v' sv.data.toList :: L) w' → v' ≠ .slice none 0 0 → LW P n ops Q rest (upd ρ d v') w')
    (hx : ev ρ x = .string sv := by rfl) (hsz : sv.size ≤ 100000000000 := by omega) (hd : Nat.blt d n = true := by rfl) (hw : Wanted ops ρ gd := by first | exact .none | exact .some ⟨_, rfl, rfl⟩) :
    LW P n ops Q (⟨some d, .convert s t x, T, p, af, gd⟩ :: rest) ρ w := by
  have hr := run_bytes_of_string (P := P) w s t e sv ht.und hs.und he.und
  have h1 := grownCap_ge w sv.size 0 e
  have h2 := grownCap_le_maxLen w sv.size 0 e (by unfold maxLen; omega)
  have hs1 : sv.data.toList.length = sv.size := by rw [Array.length_toList]; rfl
  refine lw_value hw hd (v := .slice (some ⟨w.heap.size, 0, none⟩) sv.size (grownCap w sv.size 0 e)) (w' := w.drew.alloc (.cells (bytesRow sv (grownCap w sv.size 0 e)) e ((bytesRow sv (grownCap w sv.size 0 e)).size, (bytesRow sv (grownCap w sv.size 0 e)).size + 1)))
    (by simp only [execOp, hx, Sem.run_bind, hr, Result.andThen_ok, Sem.run_pure]) (h _ _ ?_ (by simp))
  refine (H.drew.alloc _).open (M := [brd _ _]) fun F ⟨a, b⟩ => Sep.one ⟨fun k => by rw [a]; simp [Value.ownBlock, eq_comm], ?_⟩
  rw [hs1]
  refine ⟨by rw [bs_length, hs1]; omega, bs_one, .inr ⟨_, 0, _, _, _, _, rfl, b, ?_, h1, h2⟩⟩
  rw [List.drop_zero, Nat.mul_one]
  unfold bytesRow
  have e1 : (sv.data.map (fun b => Value.int .u8 (b.toNat : Int))).toList = bs sv.data.toList := by rw [Array.toList_map]; rfl
  rw [Array.toList_append, e1]
  exact List.take_left' (by rw [bs_length, hs1])
end
end Go.Proofs.Ytbdkicmdidcdcaa
namespace Go.Proofs.Ytbdkicmdidcdcaa
open Go.RowKit

/-- Blocks that hold what they hold. -/
def Hold : List (Nat × Obj) → World → Prop
  | [], _ => True
  | (g, o) :: l, w => w.heap[g]? = some o ∧ Hold l w
theorem Hold.nil {w : World} : Hold [] w := trivial
theorem Hold.cons {g : Nat} {o : Obj} {l : List (Nat × Obj)} {w : World} (h : w.heap[g]? = some o) (k : Hold l w) : Hold ((g, o) :: l) w := ⟨h, k⟩

theorem RB.val {w : World} {v : Value} {l : List UInt8} (h : RB w v l) : ∃ a cap, v = .slice a l.length cap := by
  rcases Rd.shape h with ⟨rfl, hl, _⟩ | ⟨g, off, cap, rfl, _⟩
  · exact ⟨none, 0, by rw [hl]⟩
  · exact ⟨_, _, rfl⟩
/-- Ways that meet again: what is known there. -/
def MQ {X : Type} (slots : X → List (Nat × Value)) (I : X → World → Prop) (Q : Post) : Post
  | .normal, ρ, w => ∃ x, Has ρ (slots x) ∧ I x w
  | e, ρ, w => Q e ρ w
section
variable {P : Program} {n : Nat} {Q : Post} {ρ : Env} {w : World} {ops : Array Oper} {rest : List Oper} {d : Nat} {T : TypeId} {p : String} {af : Array Edge} {gd : Option (Nat × Bool)}
theorem q_merge {X : Type} {c : Code} (slots : X → List (Nat × Value)) (I : X → World → Prop) (h : CW P n c (MQ slots I Q) ρ w) (k : ∀ x ρ w, I x w → Q .normal (upds (slots x) ρ) w) : CW P n c Q ρ w :=
  q_cut h fun e ρ w hq => by
    cases e with
    | normal => obtain ⟨x, h1, h2⟩ := hq; have := k x ρ w h2; rwa [h1.eq] at this
    | _ => exact hq
theorem x_ldW {t k : Nat} {x : Operand} {g : Nat} {l : List Value} {tt : TypeId} {fz : Nat × Nat} [ha : AggOf P t k] (hg : w.heap[g]? = some (.cells l.toArray tt fz)) (hx : ev ρ x = .pointer (some ⟨g, 0, none⟩) := by rfl)
    (hl : l.length = k := by first | rfl | assumption | (simp [bs_length, *] <;> fail) | omega) : (execOp (ev ρ) ⟨some d, .load t x, T, p, af, gd⟩).run P w = .ok (.value (.agg l.toArray)) w := by
  obtain ⟨ds, hu, hdw, hs⟩ := ha.out
  have := run_loadVar_sub (P := P) w g 0 tt t l.toArray fz ds hg hu (by cases ds <;> simp_all [TypeDesc.wide]) k hs l (by simp; exact List.take_of_length_le (by omega)) hl
  simp [execOp, hx, Instr.loadAt, Instr.sureAddr, this]
theorem x_ldC {t : Nat} {x : Operand} {g off : Nat} {l : List Value} {tt : TypeId} {fz : Nat × Nat} {v : Value} [CellOf P t] (hg : w.heap[g]? = some (.cells l.toArray tt fz)) (hx : ev ρ x = .pointer (some ⟨g, off, none⟩) := by rfl)
    (hv : l[off]? = some v := by rfl) : (execOp (ev ρ) ⟨some d, .load t x, T, p, af, gd⟩).run P w = .ok (.value v) w := x_loadC (by rw [cell_of_row _ _ _ _ _ _ hg]; simpa using hv) hx
theorem x_ldB {t : Nat} {x : Operand} {g off : Nat} {l : List UInt8} {tt : TypeId} {fz : Nat × Nat} [CellOf P t] (hg : w.heap[g]? = some (.cells (bs l).toArray tt fz)) (hx : ev ρ x = .pointer (some ⟨g, off, none⟩) := by rfl)
    (hl : off < l.length := by first | assumption | (simp only [List.length_set, List.length_replicate] <;> fail) | (simp only [List.length_set, List.length_replicate]; omega) | omega) : (execOp (ev ρ) ⟨some d, .load t x, T, p, af, gd⟩).run P w = .ok (.value (.int .u8 (by8 (l.getD off 0)))) w := x_ldC hg hx (bs_getD hl)
theorem x_subB {t e b : Nat} {z : List Value} {x lo hi : Operand} {v : Value} {l : List UInt8} {u : World} {kl kh : IntKind} {ci cj : Int} (i j : Nat) [hs : SlOf P t e z 1 b] (r : RB u v l)
    (hx : ev ρ x = v := by rfl) (hlo : ev ρ lo = .int kl ci := by rfl) (hhi : ev ρ hi = .int kh cj := by rfl) (hi' : ci = (i : Int) := by first | rfl | omega) (hj' : cj = (j : Int) := by first | rfl | omega) (hij : i ≤ j := by omega) (hj : j ≤ l.length := by omega) :
    ∃ v', (∀ w, (execOp (ev ρ) ⟨some d, .slice t x (some lo) (some hi) none, T, p, af, gd⟩).run P w = .ok (.value v') w) ∧ (∀ w, RB w v l → RB w v' ((l.take j).drop i)) ∧ v'.ownBlock = v.ownBlock := by
  subst hi' hj'
  have hi'' := hs.info
  obtain ⟨v', h1, h2, h3⟩ := Rd.sub (P := P) r i j hij hj hs.und (by
    cases hq : P.info? e with
    | none => simp [hq] at hi''
    | some i => simp [hq] at hi''; simp [hi'']) (some (.int kl i)) (some (.int kh j)) (.inr ⟨kl, rfl⟩) (.inr ⟨kh, rfl⟩)
  exact ⟨v', fun w => by simp only [execOp, hx, Sem.run_bind, Option.map_some, Option.map_none, hlo, hhi, h1, Result.andThen_ok, Sem.run_pure], rb_sub h2 hj, h3⟩
theorem x_toB {t e b : Nat} {z : List Value} {x hi : Operand} {v : Value} {l : List UInt8} {u : World} {kh : IntKind} {cj : Int} (j : Nat) [hs : SlOf P t e z 1 b] (r : RB u v l)
    (hx : ev ρ x = v := by rfl) (hhi : ev ρ hi = .int kh cj := by rfl) (hj' : cj = (j : Int) := by first | rfl | omega) (hj : j ≤ l.length := by omega) :
    ∃ v', (∀ w, (execOp (ev ρ) ⟨some d, .slice t x none (some hi) none, T, p, af, gd⟩).run P w = .ok (.value v') w) ∧ (∀ w, RB w v l → RB w v' (l.take j)) ∧ v'.ownBlock = v.ownBlock := by
  subst hj'
  have hi'' := hs.info
  obtain ⟨v', h1, h2, h3⟩ := Rd.sub (P := P) r 0 j (Nat.zero_le _) hj hs.und (by
    cases hq : P.info? e with
    | none => simp [hq] at hi''
    | some i => simp [hq] at hi''; simp [hi'']) none (some (.int kh j)) (.inl ⟨rfl, rfl⟩) (.inr ⟨kh, rfl⟩)
  exact ⟨v', fun w => by simp only [execOp, hx, Sem.run_bind, Option.map_some, Option.map_none, hhi, h1, Result.andThen_ok, Sem.run_pure], by have := rb_sub h2 hj; simpa using this, h3⟩
theorem x_fromB {t e b : Nat} {z : List Value} {x lo : Operand} {v : Value} {l : List UInt8} {u : World} {kl : IntKind} {ci : Int} (i : Nat) [hs : SlOf P t e z 1 b] (r : RB u v l)
    (hx : ev ρ x = v := by rfl) (hlo : ev ρ lo = .int kl ci := by rfl) (hi' : ci = (i : Int) := by first | rfl | omega) (hij : i ≤ l.length := by omega) :
    ∃ v', (∀ w, (execOp (ev ρ) ⟨some d, .slice t x (some lo) none none, T, p, af, gd⟩).run P w = .ok (.value v') w) ∧ (∀ w, RB w v l → RB w v' (l.drop i)) ∧ v'.ownBlock = v.ownBlock := by
  subst hi'
  have hi'' := hs.info
  obtain ⟨v', h1, h2, h3⟩ := Rd.sub (P := P) r i l.length hij (Nat.le_refl _) hs.und (by
    cases hq : P.info? e with
    | none => simp [hq] at hi''
    | some i => simp [hq] at hi''; simp [hi'']) (some (.int kl i)) none (.inr ⟨kl, rfl⟩) (.inl ⟨rfl, rfl⟩)
  exact ⟨v', fun w => by simp only [execOp, hx, Sem.run_bind, Option.map_some, Option.map_none, hlo, h1, Result.andThen_ok, Sem.run_pure], by have := rb_sub h2 (Nat.le_refl _); simpa [List.take_length] using this, h3⟩
end
/-- What is taken first and leaves a value that is not written out. -/
theorem r_takeE {P : Program} {n : Nat} {Q : Post} {ρ : Env} {w : World} {ops : Array Oper} {S : World → Prop} {fuel : Nat} {listed : Array Bool} {o : Oper} {R : Value → Prop} (i : Nat) {d : Nat} (hi : ops[i]? = some o) (ho : o.dst = some d) (hr : ∃ v, (∀ w, (execOp (ev ρ) o).run P w = .ok (.value v) w) ∧ R v)
    (h : ∀ v, R v → RW P n ops Q S fuel (listed.setIfInBounds i true) (upd ρ d v) w)
    (hd : Nat.blt d n = true := by rfl) (hw : Wanted ops ρ o.guard := by first | exact .none | exact .some ⟨_, rfl, rfl⟩) (hQ : ∀ c ρ w, Q (.panic c) ρ w → False := by intro _ _ _ h; exact h)
    (hs : Region.noSelect ops = true := by kernel_rfl) (hfr : Region.free .any ops listed i = true := by kernel_rfl) (hrd : (Region.ready .any ops listed).contains i = true := by kernel_rfl) : RW P n ops Q S (fuel + 1) listed ρ w := by
  obtain ⟨v, h1, h2⟩ := hr
  exact r_take i hi ho (fun w _ => h1 w) (h v h2) hd hw hQ hs hfr hrd
end Go.Proofs.Ytbdkicmdidcdcaa
namespace Go.Proofs.Ytbdkicmdidcdcaa
open Go.RowKit

section
variable {P : Program} {n : Nat} {Q : Post} {ρ : Env} {w : World} {ops : Array Oper} {rest : List Oper} {d : Nat} {T : TypeId} {p : String} {af : Array Edge} {gd : Option (Nat × Bool)}
variable {S : Nat → Prop} {w0 : World} {L M M' : List Res}

theorem run_binop_bits {op : BinOp} {xt : TypeId} {k : IntKind} {a b c : Int} (hop : op = .and ∨ op = .or ∨ op = .xor) (hc : bits op k a b = c) : (binOp op xt (.int k a) (.int k b)).run P w = .ok (.int k c) w := by
  subst hc
  rcases hop with rfl | rfl | rfl <;> simp [binOp, intBits_and, intBits_or, intBits_xor]
theorem q_and64 {xt yt : TypeId} {x y : Operand} {a : Nat} (b : Nat) (h : LW P n ops Q rest (upd ρ d (.int .u64 ((a &&& b : Nat) : Int))) w) (hx : ev ρ x = .int .u64 (a : Int) := by rfl) (hy : ev ρ y = .int .u64 (b : Int) := by rfl)
    (ha : a < 18446744073709551616 := by first | assumption | omega) (hb : b < 18446744073709551616 := by first | assumption | omega) (hd : Nat.blt d n = true := by rfl) (hw : Wanted ops ρ gd := by first | exact .none | exact .some ⟨_, rfl, rfl⟩) :
    LW P n ops Q (⟨some d, .binOp .and xt x y yt, T, p, af, gd⟩ :: rest) ρ w := q_int h (run_binop_bits (.inl rfl) (u64_and_nat a b ha hb)) hx hy hd hw
theorem q_xor8 {xt yt : TypeId} {x y : Operand} {a b : UInt8} (h : LW P n ops Q rest (upd ρ d (.int .u8 (by8 (a ^^^ b)))) w) (hx : ev ρ x = .int .u8 (by8 a) := by rfl) (hy : ev ρ y = .int .u8 (by8 b) := by rfl)
    (hd : Nat.blt d n = true := by rfl) (hw : Wanted ops ρ gd := by first | exact .none | exact .some ⟨_, rfl, rfl⟩) :
    LW P n ops Q (⟨some d, .binOp .xor xt x y yt, T, p, af, gd⟩ :: rest) ρ w := q_int h (run_binop_bits (.inr (.inr rfl)) (u8_xorw a b)) hx hy hd hw
/-- A byte as a greater word. -/
theorem q_u8u64 {s t : TypeId} {x : Operand} {b : UInt8} [hs : CellOf P s] [ht : IntOf P t .u64] (h : LW P n ops Q rest (upd ρ d (.int .u64 (b.toNat : Int))) w) (hx : ev ρ x = .int .u8 (by8 b) := by rfl) (hd : Nat.blt d n = true := by rfl) (hw : Wanted ops ρ gd := by first | exact .none | exact .some ⟨_, rfl, rfl⟩) :
    LW P n ops Q (⟨some d, .convert s t x, T, p, af, gd⟩ :: rest) ρ w := q_conv h (u8_u64 b) hx hd hw
theorem x_u8u64 {s t : TypeId} {x : Operand} {b : UInt8} [hs : CellOf P s] [ht : IntOf P t .u64] (hx : ev ρ x = .int .u8 (by8 b) := by rfl) :
    (execOp (ev ρ) ⟨some d, .convert s t x, T, p, af, gd⟩).run P w = .ok (.value (.int .u64 (b.toNat : Int))) w := x_conv (u8_u64 b) hx
/-- A piece of an array. -/
theorem x_sliceArr2 {ty m e k : Nat} {x : Operand} {lo hi : Option Operand} {g off : Nat} (i j : Nat) [hs : ArrOf P ty m e k] (hlo : (lo.map (ev ρ) = none ∧ i = 0) ∨ ∃ k, lo.map (ev ρ) = some (.int k (i : Int))) (hhi : (hi.map (ev ρ) = none ∧ j = m) ∨ ∃ k, hi.map (ev ρ) = some (.int k (j : Int)))
    (hx : ev ρ x = .pointer (some ⟨g, off, none⟩)) (hij : i ≤ j) (hj : j ≤ m) (him : i ≠ m) :
    (execOp (ev ρ) ⟨some d, .slice ty x lo hi none, T, p, af, gd⟩).run P w = .ok (.value (.slice (some ⟨g, off + i * k, none⟩) (j - i) (m - i))) w := by
  have hb : (Instr.sliceBounds false m m (lo.map (ev ρ)) (hi.map (ev ρ)) none).run P w = .ok (i, j, m) w := by
    unfold Instr.sliceBounds
    have a3 : ¬ m < j := by omega
    have a4 : ¬ j < i := by omega
    rcases hlo with ⟨h1, rfl⟩ | ⟨k, h1⟩ <;> rcases hhi with ⟨h2, rfl⟩ | ⟨k', h2⟩ <;> rw [h1, h2] <;> simp [Instr.sliceBound, asIntOf, hij, hj]
  have hmi : ¬ m = i := fun e => him e.symm
  simp only [execOp, hx, Instr.sliceAt, Instr.sureAddr, Sem.run_bind, Sem.run_pure, run_underlying hs.und, Result.andThen_ok, Option.map_none, hb, run_sizeOf_of hs.size, hmi, if_false, addr_add]
theorem x_arrTo {ty m e : Nat} {x hi : Operand} {g off : Nat} {kh : IntKind} {c : Int} {j : Nat} [hs : ArrOf P ty m e 1] (hx : ev ρ x = .pointer (some ⟨g, off, none⟩) := by rfl) (hhi : ev ρ hi = .int kh c := by rfl) (hj : c.toNat = j := by conv => lhs; first | simp only [Int.toNat_natCast, Int.reduceToNat, Int.toNat_natCast_add_one] | skip) (h0 : 0 ≤ c := by omega) (hjm : j ≤ m := by omega) (hm : m ≠ 0 := by decide) :
    (execOp (ev ρ) ⟨some d, .slice ty x none (some hi) none, T, p, af, gd⟩).run P w = .ok (.value (.slice (some ⟨g, off, none⟩) j m)) w := by
  have := x_sliceArr2 (P := P) (d := d) (T := T) (p := p) (af := af) (gd := gd) (w := w) (ty := ty) (lo := none) (hi := some hi) 0 j (.inl ⟨rfl, rfl⟩) (.inr ⟨kh, by simp only [Option.map_some, hhi]; congr 2; omega⟩) hx (Nat.zero_le _) hjm (Ne.symm hm)
  simpa using this
theorem x_arrFrom {ty m e : Nat} {x lo : Operand} {g off off' l' : Nat} {kl : IntKind} {c : Int} {i : Nat} [hs : ArrOf P ty m e 1] (hx : ev ρ x = .pointer (some ⟨g, off, none⟩) := by rfl) (hlo : ev ρ lo = .int kl c := by rfl) (hi : c.toNat = i := by conv => lhs; first | simp only [Int.toNat_natCast, Int.reduceToNat, Int.toNat_natCast_add_one] | skip) (h0 : 0 ≤ c := by omega) (him : i < m := by omega)
    (ho : off + i = off' := by conv => lhs; first | simp only [Nat.zero_add, Nat.add_zero, Nat.reduceAdd] | skip) (hl : m - i = l' := by conv => lhs; first | simp only [Nat.reduceSub] | skip) :
    (execOp (ev ρ) ⟨some d, .slice ty x (some lo) none none, T, p, af, gd⟩).run P w = .ok (.value (.slice (some ⟨g, off', none⟩) l' l')) w := by
  subst ho hl
  have := x_sliceArr2 (P := P) (d := d) (T := T) (p := p) (af := af) (gd := gd) (w := w) (ty := ty) (lo := some lo) (hi := none) i m (.inr ⟨kl, by simp only [Option.map_some, hlo]; congr 2; omega⟩) (.inl ⟨rfl, rfl⟩) hx (by omega) (Nat.le_refl _) (by omega)
  simpa using this
theorem q_arrTo {ty m e : Nat} {x hi : Operand} {g off : Nat} {kh : IntKind} {c : Int} {j : Nat} [hs : ArrOf P ty m e 1] (h : LW P n ops Q rest (upd ρ d (.slice (some ⟨g, off, none⟩) j m)) w) (hx : ev ρ x = .pointer (some ⟨g, off, none⟩) := by rfl) (hhi : ev ρ hi = .int kh c := by rfl) (hj : c.toNat = j := by conv => lhs; first | simp only [Int.toNat_natCast, Int.reduceToNat, Int.toNat_natCast_add_one] | skip) (h0 : 0 ≤ c := by omega) (hjm : j ≤ m := by omega) (hm : m ≠ 0 := by decide)
    (hd : Nat.blt d n = true := by rfl) (hw : Wanted ops ρ gd := by first | exact .none | exact .some ⟨_, rfl, rfl⟩) : LW P n ops Q (⟨some d, .slice ty x none (some hi) none, T, p, af, gd⟩ :: rest) ρ w := lw_value hw hd (x_arrTo hx hhi hj h0 hjm hm) h
theorem q_arrFrom {ty m e : Nat} {x lo : Operand} {g off off' l' : Nat} {kl : IntKind} {c : Int} {i : Nat} [hs : ArrOf P ty m e 1] (h : LW P n ops Q rest (upd ρ d (.slice (some ⟨g, off', none⟩) l' l')) w) (hx : ev ρ x = .pointer (some ⟨g, off, none⟩) := by rfl) (hlo : ev ρ lo = .int kl c := by rfl) (hi : c.toNat = i := by conv => lhs; first | simp only [Int.toNat_natCast, Int.reduceToNat, Int.toNat_natCast_add_one] | skip) (h0 : 0 ≤ c := by omega) (him : i < m := by omega)
    (ho : off + i = off' := by conv => lhs; first | simp only [Nat.zero_add, Nat.add_zero, Nat.reduceAdd] | skip) (hl : m - i = l' := by conv => lhs; first | simp only [Nat.reduceSub] | skip)
    (hd : Nat.blt d n = true := by rfl) (hw : Wanted ops ρ gd := by first | exact .none | exact .some ⟨_, rfl, rfl⟩) : LW P n ops Q (⟨some d, .slice ty x (some lo) none none, T, p, af, gd⟩ :: rest) ρ w := lw_value hw hd (x_arrFrom hx hlo hi h0 him ho hl) h
end

section
variable {P : Program} {n : Nat} {Q : Post} {ρ : Env} {w : World} {ops : Array Oper} {rest l : List Oper} {dst : Option Nat} {T : TypeId} {p : String} {af : Array Edge} {gd : Option (Nat × Bool)}
theorem g_lw (h : LW P n ops Q l ρ w) : LW P n ops Q l ρ w := h
theorem g_cw {c : Code} (h : CW P n c Q ρ w) : CW P n c Q ρ w := h
theorem g_bin {op : BinOp} {xt yt : TypeId} {x y : Operand} (h : LW P n ops Q (⟨dst, .binOp op xt x y yt, T, p, af, gd⟩ :: rest) ρ w) : LW P n ops Q (⟨dst, .binOp op xt x y yt, T, p, af, gd⟩ :: rest) ρ w := h
theorem g_load {t : TypeId} {x : Operand} (h : LW P n ops Q (⟨dst, .load t x, T, p, af, gd⟩ :: rest) ρ w) : LW P n ops Q (⟨dst, .load t x, T, p, af, gd⟩ :: rest) ρ w := h
theorem g_store {t : TypeId} {x y : Operand} (h : LW P n ops Q (⟨dst, .store t x y, T, p, af, gd⟩ :: rest) ρ w) : LW P n ops Q (⟨dst, .store t x y, T, p, af, gd⟩ :: rest) ρ w := h
theorem g_conv {s t : TypeId} {x : Operand} (h : LW P n ops Q (⟨dst, .convert s t x, T, p, af, gd⟩ :: rest) ρ w) : LW P n ops Q (⟨dst, .convert s t x, T, p, af, gd⟩ :: rest) ρ w := h
theorem g_slice {t : TypeId} {x : Operand} {lo hi m : Option Operand} (h : LW P n ops Q (⟨dst, .slice t x lo hi m, T, p, af, gd⟩ :: rest) ρ w) : LW P n ops Q (⟨dst, .slice t x lo hi m, T, p, af, gd⟩ :: rest) ρ w := h
theorem g_call {c : Call} (h : LW P n ops Q (⟨dst, .call c, T, p, af, gd⟩ :: rest) ρ w) : LW P n ops Q (⟨dst, .call c, T, p, af, gd⟩ :: rest) ρ w := h
end
/-- Bytes in a block, from a place on. -/
theorem RB.ofBlk {w : World} {g off m cap : Nat} {t : TypeId} {fz : Nat × Nat} {key l : List UInt8} (h : w.heap[g]? = some (.cells (bs key).toArray t fz)) (hl : (key.drop off).take m = l) (hm : l.length = m) (hc : m ≤ cap) (hcm : cap ≤ 1000000000) : RB w (.slice (some ⟨g, off, none⟩) m cap) l := by
  subst hm
  refine ⟨by simp [bs_length], bs_one, .inr ⟨g, off, cap, _, t, fz, rfl, h, ?_, hc, by unfold maxLen; omega⟩⟩
  rw [Nat.mul_one]
  show ((bs key).drop off).take l.length = bs l
  rw [← bs_drop, ← bs_take, hl]
end Go.Proofs.Ytbdkicmdidcdcaa
