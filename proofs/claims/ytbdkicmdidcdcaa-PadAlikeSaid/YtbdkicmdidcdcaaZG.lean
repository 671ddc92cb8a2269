/-
  A walk whose frame is a function of the slots: the rules of code, of regions in the text's order, of entering and of returning. Plain laws over any program. Memory by resources that lie apart. Plain laws over any program. The operations that only reckon, on a frame of slots. Plain laws over any program. What a type is, as a class: found by the type's number. Plain. The operations on memory, on a frame of slots and by resources. Plain laws over any program. Calls, loops, slices, on a frame of slots and by resources. Plain laws over any program. Regions that draw their order, on a frame of slots: what only reckons is taken first. Plain laws over any program.
-/
import Derived.Test.YtbdkicmdidcdcaaZA
import Derived.OrdersHeld
import Derived.Handy
import Derived.Laws.Pointers
import Derived.Test.YtbdkicmdidcdcaaZC
import Derived.LoopN
namespace Go.Proofs.Ytbdkicmdidcdcaa
open Go.RowKit

theorem beq_ne {i d : Nat} (h : i ≠ d) : Nat.beq i d = false := by
  cases hb : Nat.beq i d with
  | true => exact absurd (Nat.eq_of_beq_eq_true hb) h
  | false => rfl
theorem ofFn_getD {n : Nat} (ρ : Nat → Value) (t : Nat) (h : t < n) : (Array.ofFn (fun i : Fin n => ρ i)).getD t undef = ρ t := by
  simp [Array.getD, h]
/-- The slots of a frame. -/
abbrev Env := Nat → Value
def upd (ρ : Env) (d : Nat) (v : Value) : Env := fun t => bif Nat.beq t d then v else ρ t
def ev (ρ : Env) : Operand → Value
  | .tmp t => ρ t
  | .const v => v
  | .global g => .pointer (some ⟨g, 0, none⟩)
  | .func f => .func (.func f) #[] #[]
def act (n : Nat) (ρ : Env) : Act := ⟨Array.ofFn (fun i : Fin n => ρ i), []⟩
def Fits (n : Nat) (ρ : Env) : Prop := ∀ t, n ≤ t → ρ t = undef
def pu (ρ : Env) : Option Nat → Value → Env
  | some d, v => upd ρ d v
  | none, _ => ρ
def within (n : Nat) : Option Nat → Bool
  | some d => Nat.blt d n
  | none => true

theorem act_eval {n : Nat} {ρ : Env} (h : Fits n ρ) : (act n ρ).eval = ev ρ := by
  funext x
  cases x with
  | tmp t =>
    show (Array.ofFn (fun i : Fin n => ρ i)).getD t undef = ρ t
    by_cases ht : t < n
    · exact ofFn_getD ρ t ht
    · rw [h t (Nat.le_of_not_lt ht)]; simp [Array.getD, ht]
  | const v => rfl
  | global g => rfl
  | func f => rfl
theorem act_put (n : Nat) (ρ : Env) (d : Option Nat) (v : Value) : (act n ρ).put d v = act n (pu ρ d v) := by
  cases d with
  | none => rfl
  | some d =>
    simp only [Act.put, act, pu]
    congr 1
    apply Array.ext
    · simp
    · intro i h1 h2
      simp only [Array.size_ofFn] at h2
      by_cases hd : d = i
      · subst hd
        simp [upd]
      · have h3 : Nat.beq i d = false := beq_ne (Ne.symm hd)
        simp [upd, h3, hd, h2]
theorem Fits.put {n : Nat} {ρ : Env} (h : Fits n ρ) {d : Option Nat} (hd : within n d = true) (v : Value) : Fits n (pu ρ d v) := by
  intro t ht
  cases d with
  | none => exact h t ht
  | some d =>
    have hlt : d < n := by simpa [within, Nat.blt_eq] using hd
    simp only [pu, upd]
    have : Nat.beq t d = false := beq_ne (by omega)
    simp [this, h t ht]

/-- What is asked of the end of code, said of the slots. -/
abbrev Post := Exit → Env → World → Prop
def lift (n : Nat) (Q : Post) : Exit → Act → World → Prop := fun e a w => ∃ ρ, Fits n ρ ∧ a = act n ρ ∧ Q e ρ w
structure CW (P : Program) (n : Nat) (c : Code) (Q : Post) (ρ : Env) (w : World) : Prop where
  out : Fits n ρ → c.wp P (lift n Q) (act n ρ) w
structure LW (P : Program) (n : Nat) (ops : Array Oper) (Q : Post) (l : List Oper) (ρ : Env) (w : World) : Prop where
  out : Fits n ρ → wpList P ops (lift n Q) l (act n ρ) w

def Then (next : Env → World → Prop) (Q : Post) : Post
  | .normal, ρ, w => next ρ w
  | e, ρ, w => Q e ρ w
def InB (id : Nat) (Q : Post) : Post
  | .exit id', ρ, w => bif Nat.beq id' id then Q .normal ρ w else Q (.exit id') ρ w
  | e, ρ, w => Q e ρ w

section
variable {P : Program} {n : Nat} {Q : Post} {ρ : Env} {w : World}

theorem q_seq {x y : Code} (h : CW P n x (Then (CW P n y Q) Q) ρ w) : CW P n (.seq x y) Q ρ w := ⟨fun hf =>
  wp_seq (wp_mono (h.out hf) fun e a w ⟨ρ', hf', ha, hq⟩ => by
    subst ha
    cases e with
    | normal => exact CW.out hq hf'
    | _ => exact ⟨ρ', hf', rfl, hq⟩)⟩
theorem q_skip (h : Q .normal ρ w) : CW P n .skip Q ρ w := ⟨fun hf => wp_skip ⟨ρ, hf, rfl, h⟩⟩
theorem q_exit {id : Nat} (h : Q (.exit id) ρ w) : CW P n (.exit id) Q ρ w := ⟨fun hf => wp_exit ⟨ρ, hf, rfl, h⟩⟩
theorem q_ret (h : Q .ret ρ w) : CW P n .ret Q ρ w := ⟨fun hf => wp_ret ⟨ρ, hf, rfl, h⟩⟩
theorem q_block {id : Nat} {c : Code} (h : CW P n c (InB id Q) ρ w) : CW P n (.block id c) Q ρ w := ⟨fun hf =>
  wp_block (wp_mono (h.out hf) fun e a w ⟨ρ', hf', ha, hq⟩ => by
    subst ha
    cases e with
    | exit id' =>
      by_cases hid : id' = id
      · subst hid
        have : Nat.beq id' id' = true := Nat.beq_refl _
        simp only [InB, this, cond_true] at hq
        simp only [Exit.inBlock, if_true]
        exact ⟨ρ', hf', rfl, hq⟩
      · have : Nat.beq id' id = false := beq_ne hid
        simp only [InB, this, cond_false] at hq
        simp only [Exit.inBlock, hid, if_false]
        exact ⟨ρ', hf', rfl, hq⟩
    | _ => exact ⟨ρ', hf', rfl, hq⟩)⟩
theorem q_then {next : Env → World → Prop} (h : next ρ w) : Then next Q .normal ρ w := h
theorem q_then_exit {next : Env → World → Prop} {id : Nat} (h : Q (.exit id) ρ w) : Then next Q (.exit id) ρ w := h
theorem q_then_ret {next : Env → World → Prop} (h : Q .ret ρ w) : Then next Q .ret ρ w := h
theorem q_in {id : Nat} (h : Q .normal ρ w) : InB id Q .normal ρ w := h
theorem q_in_ret {id : Nat} (h : Q .ret ρ w) : InB id Q .ret ρ w := h
theorem q_in_hit {id : Nat} (h : Q .normal ρ w) : InB id Q (.exit id) ρ w := by simp only [InB, Nat.beq_refl, cond_true]; exact h
theorem q_in_miss {id id' : Nat} (h : Q (.exit id') ρ w) (hb : Nat.beq id' id = false := by rfl) : InB id Q (.exit id') ρ w := by simp only [InB, hb, cond_false]; exact h
theorem q_cond_true {c : Operand} {x y : Code} (hc : ev ρ c = .bool true) (h : CW P n x Q ρ w) : CW P n (.cond c x y) Q ρ w := ⟨fun hf =>
  wp_cond_true (by rw [act_eval hf]; exact hc) (h.out hf)⟩
theorem q_cond_false {c : Operand} {x y : Code} (hc : ev ρ c = .bool false) (h : CW P n y Q ρ w) : CW P n (.cond c x y) Q ρ w := ⟨fun hf =>
  wp_cond_false (by rw [act_eval hf]; exact hc) (h.out hf)⟩
theorem q_cond {c : Operand} {x y : Code} {b : Bool} (hc : ev ρ c = .bool b) (ht : b = true → CW P n x Q ρ w) (hf : b = false → CW P n y Q ρ w) : CW P n (.cond c x y) Q ρ w := by
  cases b
  · exact q_cond_false hc (hf rfl)
  · exact q_cond_true hc (ht rfl)
theorem q_region {id : Nat} {l : List Oper} (h : LW P n l.toArray Q l ρ w) : CW P n (.region id l.toArray false) Q ρ w := ⟨fun hf => wp_region_lit (h.out hf)⟩
theorem q_nil {ops : Array Oper} (h : Q .normal ρ w) : LW P n ops Q [] ρ w := ⟨fun hf => ⟨ρ, hf, rfl, h⟩⟩

/-- Whether an operation behind a guard is wanted. -/
def Yld (ops : Array Oper) (ρ : Env) (j : Nat) (b : Bool) : Prop := ∃ d, (ops[j]?).bind (·.dst) = some d ∧ ρ d = .bool b
inductive Wanted (ops : Array Oper) (ρ : Env) : Option (Nat × Bool) → Prop
  | none : Wanted ops ρ none
  | some {j : Nat} {b : Bool} : Yld ops ρ j b → Wanted ops ρ (some (j, b))
theorem yielded_act {ops : Array Oper} {j : Nat} {b : Bool} (h : Yld ops ρ j b) (hf : Fits n ρ) : yielded ops (act n ρ).tmps j = some b := by
  obtain ⟨d, h1, h2⟩ := h
  unfold yielded
  rw [h1]
  have hlt : d < n := by
    rcases Nat.lt_or_ge d n with hlt | hge
    · exact hlt
    · rw [hf d hge] at h2; cases h2
  have : (act n ρ).tmps[d]? = some (ρ d) := by simp [act, hlt]
  simp only [Option.bind_some, this, h2]
theorem want_spec {ops : Array Oper} {g : Option (Nat × Bool)} (h : Wanted ops ρ g) : g = none ∨ ∃ j b, g = some (j, b) ∧ Yld ops ρ j b := by
  cases h with
  | none => exact .inl rfl
  | some h => exact .inr ⟨_, _, rfl, h⟩
theorem lw_step {ops : Array Oper} {o : Oper} {rest : List Oper} (hw : Wanted ops ρ o.guard)
    (h : Fits n ρ → ∀ K : Act → World → Prop, (∀ a w, wpList P ops (lift n Q) rest a w → K a w) → o.wp P (act n ρ) w K (lift n Q)) : LW P n ops Q (o :: rest) ρ w := ⟨fun hf =>
  wpList_step fun K hK => by
    have : Region.wanted o (yielded ops (act n ρ).tmps) = true := by
      unfold Region.wanted
      rcases want_spec hw with hg | ⟨j, b, hg, hy⟩
      · rw [hg]
      · rw [hg]; simp only; rw [yielded_act hy hf]; simp
    rw [if_pos this]
    exact h hf K hK⟩
/-- An operation that leaves a value. -/
theorem lw_value {ops : Array Oper} {o : Oper} {rest : List Oper} {v : Value} {w' : World} (hw : Wanted ops ρ o.guard)
    (hd : within n o.dst = true) (hr : (execOp (ev ρ) o).run P w = .ok (.value v) w') (h : LW P n ops Q rest (pu ρ o.dst v) w') : LW P n ops Q (o :: rest) ρ w :=
  lw_step hw fun hf K hK => by
    unfold Oper.wp
    rw [act_eval hf, hr]
    show K ((act n ρ).put o.dst v) w'
    rw [act_put]
    exact hK _ _ (h.out (hf.put hd v))
theorem lw_skip {ops : Array Oper} {o : Oper} {rest : List Oper} {w' : World} (hw : Wanted ops ρ o.guard)
    (hd : within n o.dst = true) (hr : (execOp (ev ρ) o).run P w = .ok .skip w') (h : LW P n ops Q rest (pu ρ o.dst undef) w') : LW P n ops Q (o :: rest) ρ w :=
  lw_step hw fun hf K hK => by
    unfold Oper.wp
    rw [act_eval hf, hr]
    show K ((act n ρ).put o.dst undef) w'
    rw [act_put]
    exact hK _ _ (h.out (hf.put hd undef))
theorem lw_enter {ops : Array Oper} {o : Oper} {rest : List Oper} {f : FuncId} {args : Array Value} {w' : World} {R : Ending → World → Prop} (hw : Wanted ops ρ o.guard)
    (hd : within n o.dst = true) (hr : (execOp (ev ρ) o).run P w = .ok (.enter f args) w') (hc : Calls P f args w' R)
    (h : ∀ e w'', R e w'' → ∃ v, e = .returned v ∧ LW P n ops Q rest (pu ρ o.dst v) w'') : LW P n ops Q (o :: rest) ρ w :=
  lw_step hw fun hf K hK => by
    unfold Oper.wp
    rw [act_eval hf, hr]
    refine hc.mono fun e w'' he => ?_
    obtain ⟨v, rfl, hl⟩ := h e w'' he
    show K ((act n ρ).put o.dst v) w''
    rw [act_put]
    exact hK _ _ (hl.out (hf.put hd v))
/-- .. behind a guard that says no. -/
theorem lw_off {ops : Array Oper} {o : Oper} {rest : List Oper} {j : Nat} {b b' : Bool} (hg : o.guard = some (j, b)) (hy : Yld ops ρ j b') (hb : b' ≠ b)
    (hd : within n o.dst = true) (h : LW P n ops Q rest (pu ρ o.dst undef) w) : LW P n ops Q (o :: rest) ρ w := ⟨fun hf =>
  wpList_step fun K hK => by
    have : Region.wanted o (yielded ops (act n ρ).tmps) = false := by
      unfold Region.wanted
      rw [hg]; simp only
      rw [yielded_act hy hf]
      cases b <;> cases b' <;> simp_all
    rw [this]
    simp only [Bool.false_eq_true, if_false]
    rw [act_put]
    exact hK _ _ (h.out (hf.put hd undef))⟩
end

/-- Entering. -/
def env0 (args : List Value) : Env := fun t => args.getD t undef
theorem env0_act (n : Nat) (args : Array Value) (hn : args.size ≤ n) : ({ tmps := args ++ Array.replicate (n - args.size) undef, defers := [] } : Act) = act n (env0 args.toList) := by
  simp only [act]
  congr 1
  apply Array.ext
  · simp; omega
  · intro i h1 h2
    simp only [Array.getElem_append, Array.getElem_replicate, Array.getElem_ofFn, env0]
    by_cases hi : i < args.size
    · simp [hi, List.getD_eq_getElem?_getD]
    · simp [hi, List.getD_eq_getElem?_getD]
theorem env0_fits (n : Nat) (args : Array Value) (hn : args.size ≤ n) : Fits n (env0 args.toList) := fun t ht => by
  simp only [env0, List.getD_eq_getElem?_getD]
  rw [List.getElem?_eq_none (by simp; omega)]; rfl
/-- What a body's end asks. -/
def rets (P : Program) (fn : Func) (R : Ending → World → Prop) : Post
  | .normal, ρ, w | .ret, ρ, w => ∃ v, (results fn (act fn.ntmps ρ).tmps).run P w = .ok v w ∧ R (.returned v) w
  | _, _, _ => False
theorem q_enter {P : Program} {f : FuncId} {fn : Func} {c : Code} {args : Array Value} {w : World} {R : Ending → World → Prop} (hf : P.funcs[f]? = some fn) (hb : fn.body = some c) (hn : Nat.ble args.size fn.ntmps = true)
    (h : CW P fn.ntmps c (rets P fn R) (env0 args.toList) w) : Calls P f args w R := by
  have hn' : args.size ≤ fn.ntmps := by simpa using hn
  refine calls_of_wp hf hb ?_
  rw [env0_act fn.ntmps args hn']
  refine wp_mono (h.out (env0_fits _ _ hn')) fun e a w ⟨ρ, _, ha, hq⟩ => ?_
  subst ha
  cases e with
  | normal => obtain ⟨v, h1, h2⟩ := hq; exact ⟨rfl, v, h1, h2⟩
  | ret => obtain ⟨v, h1, h2⟩ := hq; exact ⟨rfl, v, h1, h2⟩
  | _ => exact hq.elim
theorem act_getD {n : Nat} {ρ : Env} {t : Nat} (ht : Nat.blt t n = true) : (act n ρ).tmps.getD t undef = ρ t := by
  have : t < n := by simpa [Nat.blt_eq] using ht
  exact ofFn_getD ρ t this
section
variable {P : Program} {fn : Func} {R : Ending → World → Prop} {ρ : Env} {w : World}
theorem rets0 (h : fn.results = #[]) (hR : R (.returned (.tuple #[])) w) : ∃ v, (results fn (act fn.ntmps ρ).tmps).run P w = .ok v w ∧ R (.returned v) w := ⟨_, results_none h _ P w, hR⟩
theorem rets1 {t : Nat} (h : fn.results = #[.tmp t]) (ht : Nat.blt t fn.ntmps = true) {v : Value} (hv : ρ t = v) (hR : R (.returned v) w) : ∃ v, (results fn (act fn.ntmps ρ).tmps).run P w = .ok v w ∧ R (.returned v) w :=
  ⟨v, by rw [results_tmp h, act_getD ht, hv], hR⟩
theorem rets2 {t u : Nat} (h : fn.results = #[.tmp t, .tmp u]) (ht : Nat.blt t fn.ntmps = true) (hu : Nat.blt u fn.ntmps = true) {v v' : Value} (hv : ρ t = v) (hv' : ρ u = v') (hR : R (.returned (.tuple #[v, v'])) w) :
    ∃ v, (results fn (act fn.ntmps ρ).tmps).run P w = .ok v w ∧ R (.returned v) w :=
  ⟨_, by rw [results_tmp2 h, act_getD ht, act_getD hu, hv, hv'], hR⟩
end
end Go.Proofs.Ytbdkicmdidcdcaa
namespace Go.Proofs.Ytbdkicmdidcdcaa
open Go.RowKit

/-- Something that lies in memory, in blocks of its own. -/
structure RObj where
  own : (Nat → Prop) → World → Prop
  lt : ∀ {F : Nat → Prop} {w : World} {k : Nat}, own F w → F k → k < w.heap.size
  keep : ∀ {F : Nat → Prop} {w w' : World}, own F w → (∀ k, F k → w'.heap[k]? = w.heap[k]?) → own F w'
/-- A block; a slice that may be appended to (its row is its own); one that is read alone; anything else. -/
inductive Res where
  | pt (g : Nat) (o : Obj)
  | sl (s : Nat) (v : Value) (n : Nat) (xs : List Value)
  | rd (s : Nat) (v : Value) (n : Nat) (xs : List Value)
  | ob (R : RObj)
def Res.own : Res → (Nat → Prop) → World → Prop
  | .pt g o, F, w => (∀ k, F k ↔ k = g) ∧ w.heap[g]? = some o
  | .sl s v n xs, F, w => (∀ k, F k ↔ v.ownBlock = some k) ∧ Ow 0 s w v n xs
  | .rd s v n xs, F, w => (∀ k, F k ↔ v.ownBlock = some k) ∧ Rd s w v n xs
  | .ob R, F, w => R.own F w
theorem Res.lt : ∀ (R : Res) {F : Nat → Prop} {w : World} {k : Nat}, R.own F w → F k → k < w.heap.size
  | .pt _ _, _, _, _, h, hk => by rw [(h.1 _).1 hk]; exact lt_of_heap h.2
  | .sl _ _ _ _, _, _, _, h, hk => h.2.rd.lt _ ((h.1 _).1 hk)
  | .rd _ _ _ _, _, _, _, h, hk => h.2.lt _ ((h.1 _).1 hk)
  | .ob R, _, _, _, h, hk => R.lt h hk
theorem Res.keep : ∀ (R : Res) {F : Nat → Prop} {w w' : World}, R.own F w → (∀ k, F k → w'.heap[k]? = w.heap[k]?) → R.own F w'
  | .pt _ _, _, _, _, h, hk => ⟨h.1, (hk _ ((h.1 _).2 rfl)).trans h.2⟩
  | .sl _ _ _ _, _, _, _, h, hk => ⟨h.1, h.2.keep fun k e => hk k ((h.1 k).2 e)⟩
  | .rd _ _ _ _, _, _, _, h, hk => ⟨h.1, h.2.keep fun k e => hk k ((h.1 k).2 e)⟩
  | .ob R, _, _, _, h, hk => R.keep h hk
/-- A block of cells that may be written. -/
abbrev cells (g : Nat) (l : List Value) (t : TypeId) : Res := .pt g (.cells l.toArray t (0, 0))
abbrev bsl (v : Value) (l : List UInt8) : Res := .sl 1 v l.length (bs l)
abbrev brd (v : Value) (l : List UInt8) : Res := .rd 1 v l.length (bs l)

def Sep : List Res → (Nat → Prop) → World → Prop
  | [], F, _ => ∀ k, ¬ F k
  | R :: L, F, w => ∃ F1 F2, (∀ k, F k ↔ F1 k ∨ F2 k) ∧ (∀ k, F1 k → ¬ F2 k) ∧ R.own F1 w ∧ Sep L F2 w

theorem Sep.lt : ∀ {L : List Res} {F : Nat → Prop} {w : World} {k : Nat}, Sep L F w → F k → k < w.heap.size
  | [], _, _, k, h, hk => (h k hk).elim
  | _ :: _, _, _, _, ⟨_, _, h1, _, h3, h4⟩, hk => ((h1 _).1 hk).elim (fun a => Res.lt _ h3 a) fun a => Sep.lt h4 a
theorem Sep.keep : ∀ {L : List Res} {F : Nat → Prop} {w w' : World}, Sep L F w → (∀ k, F k → w'.heap[k]? = w.heap[k]?) → Sep L F w'
  | [], _, _, _, h, _ => h
  | _ :: _, _, _, _, ⟨F1, F2, h1, h2, h3, h4⟩, hk => ⟨F1, F2, h1, h2, Res.keep _ h3 fun k e => hk k ((h1 k).2 (.inl e)), Sep.keep h4 fun k e => hk k ((h1 k).2 (.inr e))⟩
theorem Sep.congr {L : List Res} {F G : Nat → Prop} {w : World} (h : Sep L F w) (e : ∀ k, G k ↔ F k) : Sep L G w := by
  have : G = F := funext fun k => propext (e k)
  rw [this]; exact h
theorem Sep.cons {R : Res} {L : List Res} {F1 F2 : Nat → Prop} {w : World} (h : R.own F1 w) (k : Sep L F2 w) (hd : ∀ k, F1 k → ¬ F2 k) : Sep (R :: L) (fun k => F1 k ∨ F2 k) w :=
  ⟨F1, F2, fun _ => Iff.rfl, hd, h, k⟩
theorem Sep.one {R : Res} {F : Nat → Prop} {w : World} (h : R.own F w) : Sep [R] F w := ⟨F, fun _ => False, fun k => by simp, fun _ _ => id, h, fun _ => id⟩
theorem Sep.one_iff {R : Res} {F : Nat → Prop} {w : World} : Sep [R] F w ↔ R.own F w := by
  refine ⟨fun ⟨F1, F2, h1, h2, h3, h4⟩ => ?_, Sep.one⟩
  have : F = F1 := funext fun k => propext (by rw [h1]; exact ⟨fun h => h.resolve_right (h4 k), .inl⟩)
  rw [this]; exact h3
theorem Sep.append : ∀ {L M : List Res} {F1 F2 : Nat → Prop} {w : World}, Sep L F1 w → Sep M F2 w → (∀ k, F1 k → ¬ F2 k) → Sep (L ++ M) (fun k => F1 k ∨ F2 k) w
  | [], _, F1, F2, _, h, k, _ => k.congr fun i => ⟨fun a => a.resolve_left (h i), .inr⟩
  | R :: L, M, F1, F2, w, ⟨A, B, h1, h2, h3, h4⟩, k, hd => by
    have h5 := Sep.append h4 k (fun i hi => hd i ((h1 i).2 (.inr hi)))
    exact ⟨A, _, fun i => by show F1 i ∨ F2 i ↔ _; rw [h1]; exact or_assoc, fun i hi e => e.elim (h2 i hi) (hd i ((h1 i).2 (.inl hi))), h3, h5⟩
theorem Sep.split : ∀ {L M : List Res} {F : Nat → Prop} {w : World}, Sep (L ++ M) F w → ∃ F1 F2, (∀ k, F k ↔ F1 k ∨ F2 k) ∧ (∀ k, F1 k → ¬ F2 k) ∧ Sep L F1 w ∧ Sep M F2 w
  | [], M, F, w, h => ⟨fun _ => False, F, fun k => by simp, fun _ a => a.elim, fun _ => id, h⟩
  | R :: L, M, F, w, ⟨A, B, h1, h2, h3, h4⟩ => by
    obtain ⟨C, D, k1, k2, k3, k4⟩ := Sep.split h4
    refine ⟨fun k => A k ∨ C k, D, fun k => by show F k ↔ (A k ∨ C k) ∨ D k; rw [h1, k1]; exact or_assoc.symm, fun k a => a.elim (fun a d => h2 k a ((k1 k).2 (.inr d))) (k2 k), ⟨A, C, fun _ => Iff.rfl, fun k a c => h2 k a ((k1 k).2 (.inl c)), h3, k3⟩, k4⟩
theorem Sep.swap {R R' : Res} {L : List Res} {F : Nat → Prop} {w : World} (h : Sep (R :: R' :: L) F w) : Sep (R' :: R :: L) F w := by
  obtain ⟨A, B, h1, h2, h3, C, D, k1, k2, k3, k4⟩ := h
  refine ⟨C, fun k => A k ∨ D k, fun k => ?_, fun k c e => e.elim (fun a => h2 k a ((k1 k).2 (.inl c))) (k2 k c), k3, A, D, fun _ => Iff.rfl, fun k a d => h2 k a ((k1 k).2 (.inr d)), h3, k4⟩
  rw [h1, k1]
  constructor
  · rintro (a | c | d)
    · exact .inr (.inl a)
    · exact .inl c
    · exact .inr (.inr d)
  · rintro (c | a | d)
    · exact .inr (.inl c)
    · exact .inl a
    · exact .inr (.inr d)
/-- L is R and M. -/
inductive Take : List Res → Res → List Res → Prop
  | z {R : Res} {L : List Res} : Take (R :: L) R L
  | s {R R' : Res} {L M : List Res} : Take L R M → Take (R' :: L) R (R' :: M)
theorem Take.sep {L M : List Res} {R : Res} (h : Take L R M) : ∀ {F : Nat → Prop} {w : World}, Sep L F w → Sep (R :: M) F w := by
  induction h with
  | z => exact fun h => h
  | s _ ih => exact fun ⟨A, B, h1, h2, h3, h4⟩ => Sep.swap ⟨A, B, h1, h2, h3, ih h4⟩
/-- All of M are among L. -/
inductive Sub : List Res → List Res → Prop
  | nil {L : List Res} : Sub L []
  | cons {L L' M : List Res} {R : Res} : Take L R L' → Sub L' M → Sub L (R :: M)

/-- The state of a walk: what lies where; of what there was at the start nothing but S has changed. -/
def St (S : Nat → Prop) (w0 : World) (L : List Res) (w : World) : Prop := ∃ F, Sep L F w ∧ Fr S w0 w ∧ ∀ k, F k → S k ∨ w0.heap.size ≤ k

section
variable {S : Nat → Prop} {w0 w w' : World} {L M : List Res} {R : Res} {i : Nat}
theorem St.start {F : Nat → Prop} (h : Sep L F w) : St F w L w := ⟨F, h, Fr.refl _ _, fun _ => .inl⟩
theorem St.nil (S : Nat → Prop) (w : World) : St S w [] w := ⟨fun _ => False, fun _ => id, Fr.refl _ _, fun _ a => a.elim⟩
theorem St.fr (h : St S w0 L w) : Fr S w0 w := let ⟨_, _, a, _⟩ := h; a
theorem St.no (h : St S w0 L w) (hn : No w w') : St S w0 L w' := by
  obtain ⟨F, h1, h2, h3⟩ := h
  exact ⟨F, h1.keep fun k hk => hn.block k (h1.lt hk) id, h2.trans hn fun _ _ a => a.elim, h3⟩
theorem St.drew (h : St S w0 L w) : St S w0 L w.drew := h.no (Fr.refl _ _).drew
theorem St.drewN (h : St S w0 L w) (n : Nat) : St S w0 L (w.drewN n) := h.no ((Fr.refl _ _).drewN n)
theorem St.take (h : St S w0 L w) (t : Take L R M) : St S w0 (R :: M) w := let ⟨F, a, b⟩ := h; ⟨F, t.sep a, b⟩
theorem St.own (h : St S w0 (R :: L) w) : ∃ F, R.own F w ∧ ∀ k, F k → S k ∨ w0.heap.size ≤ k := by
  obtain ⟨F, ⟨A, B, h1, h2, h3, h4⟩, _, h5⟩ := h
  exact ⟨A, h3, fun k hk => h5 k ((h1 k).2 (.inl hk))⟩
theorem St.get (h : St S w0 L w) (t : Take L R M) : ∃ F, R.own F w ∧ ∀ k, F k → S k ∨ w0.heap.size ≤ k := (h.take t).own
theorem St.blk (h : St S w0 L w) {g : Nat} {o : Obj} (t : Take L (.pt g o) M) : w.heap[g]? = some o := let ⟨_, a, _⟩ := h.get t; a.2
theorem St.slc (h : St S w0 L w) {s n : Nat} {v : Value} {xs : List Value} (t : Take L (.sl s v n xs) M) : Ow 0 s w v n xs := let ⟨_, a, _⟩ := h.get t; a.2
theorem St.rdc (h : St S w0 L w) {s n : Nat} {v : Value} {xs : List Value} (t : Take L (.rd s v n xs) M) : Rd s w v n xs := let ⟨_, a, _⟩ := h.get t; a.2
/-- New blocks. -/
theorem St.new (h : St S w0 L w) {G : Nat → Prop} (hn : No w w') (hG : Sep M G w') (hg : ∀ k, G k → w.heap.size ≤ k) : St S w0 (M ++ L) w' := by
  obtain ⟨F, h1, h2, h3⟩ := h
  have h1' : Sep L F w' := h1.keep fun k hk => hn.block k (h1.lt hk) id
  refine ⟨_, hG.append h1' fun k a b => ?_, h2.trans hn fun _ _ a => a.elim, fun k a => a.elim (fun b => .inr (Nat.le_trans h2.size (hg k b))) (h3 k)⟩
  have := h1.lt b; have := hg k a; omega
/-- The first becomes others, in its own blocks and in new ones. -/
theorem St.upd (h : St S w0 (R :: L) w) (hs : ∀ F, R.own F w → ∃ G, Sep M G w' ∧ Fr F w w' ∧ ∀ k, G k → F k ∨ w.heap.size ≤ k) : St S w0 (M ++ L) w' := by
  obtain ⟨F, ⟨C, D, b1, b2, b3, b4⟩, h2, h3⟩ := h
  obtain ⟨G, c1, c2, c3⟩ := hs C b3
  have hD : Sep L D w' := b4.keep fun k hk => c2.block k (b4.lt hk) fun hc => b2 k hc hk
  have hGD : ∀ k, G k → ¬ D k := fun k hg hd => (c3 k hg).elim (fun hc => b2 k hc hd) fun hle => by have := b4.lt hd; omega
  refine ⟨_, c1.append hD hGD, h2.trans c2 ?_, ?_⟩
  · intro k hk hc
    exact (h3 k ((b1 k).2 (.inl hc))).resolve_right (by omega)
  · intro k e
    rcases e with hg | hd
    · rcases c3 k hg with hc | hle
      · exact h3 k ((b1 k).2 (.inl hc))
      · exact .inr (Nat.le_trans h2.size hle)
    · exact h3 k ((b1 k).2 (.inr hd))
/-- A store into the first. -/
theorem St.store {g : Nat} {o o' : Obj} (h : St S w0 (.pt g o :: L) w) (hg : w'.heap[g]? = some o') (hf : Fr (fun k => k = g) w w') : St S w0 (.pt g o' :: L) w' :=
  h.upd (M := [.pt g o']) fun F hF => ⟨F, Sep.one ⟨hF.1, hg⟩, hf.mono fun k _ e => (hF.1 k).2 e, fun _ => .inl⟩
/-- Nobody has it any more. -/
theorem St.drop (h : St S w0 (R :: L) w) : St S w0 L w :=
  h.upd (M := []) (w' := w) fun _F _ => ⟨fun _ => False, fun _ => id, Fr.refl _ _, fun _ a => a.elim⟩
theorem St.open (h : St S w0 (R :: L) w) (hs : ∀ F, R.own F w → Sep M F w) : St S w0 (M ++ L) w :=
  h.upd fun F hF => ⟨F, hs F hF, Fr.refl _ _, fun _ => .inl⟩
theorem Sub.sep {L M : List Res} (t : Sub L M) : ∀ {F : Nat → Prop} {w : World}, Sep L F w → ∃ G, Sep M G w ∧ ∀ k, G k → F k := by
  induction t with
  | nil => exact fun _ => ⟨fun _ => False, fun _ => id, fun _ a => a.elim⟩
  | cons t _ ih =>
    intro F w h
    obtain ⟨A, B, h1, h2, h3, h4⟩ := t.sep h
    obtain ⟨G, g1, g2⟩ := ih h4
    exact ⟨_, Sep.cons h3 g1 fun k a g => h2 k a (g2 k g), fun k e => (h1 k).2 (e.imp id (g2 k))⟩
theorem St.sub (h : St S w0 L w) (t : Sub L M) : St S w0 M w := by
  obtain ⟨F, h1, h2, h3⟩ := h
  obtain ⟨G, g1, g2⟩ := t.sep h1
  exact ⟨G, g1, h2, fun k hk => h3 k (g2 k hk)⟩
/-- What lies apart. -/
theorem St.ne {g g' : Nat} {o o' : Obj} (h : St S w0 L w) (hi : Take L (.pt g o) M) {M' : List Res} (hj : Take M (.pt g' o') M') : g ≠ g' := by
  obtain ⟨F, ⟨A, B, h1, h2, h3, h4⟩, _, _⟩ := h.take hi
  obtain ⟨C, D, k1, k2, k3, k4⟩ := hj.sep h4
  intro e
  exact h2 g ((h3.1 g).2 rfl) ((k1 g).2 (.inl ((k3.1 g).2 e)))
theorem St.fresh {g : Nat} {o : Obj} (h : St S w0 L w) (hi : Take L (.pt g o) M) : S g ∨ w0.heap.size ≤ g := let ⟨_, a, b⟩ := h.get hi; b g ((a.1 g).2 rfl)
/-- What came in is as it was. -/
theorem St.rb {v : Value} {l : List UInt8} (h : St S w0 L w) (hr : RB w0 v l) (hn : ∀ k, v.ownBlock = some k → ¬ S k) : RB w v l := Rd.fr hr h.fr hn
end

end Go.Proofs.Ytbdkicmdidcdcaa
namespace Go.Proofs.Ytbdkicmdidcdcaa
open Go.RowKit

section
variable {P : Program} {n : Nat} {Q : Post} {ρ : Env} {w : World} {ops : Array Oper} {rest : List Oper} {d : Nat} {T : TypeId} {p : String} {af : Array Edge} {g : Option (Nat × Bool)}

theorem q_move {x : Operand} {v : Value} (h : LW P n ops Q rest (upd ρ d v) w) (hx : ev ρ x = v := by conv => lhs; whnf) (hd : Nat.blt d n = true := by rfl) (hw : Wanted ops ρ g := by first | exact .none | exact .some ⟨_, rfl, rfl⟩) :
    LW P n ops Q (⟨some d, .move x, T, p, af, g⟩ :: rest) ρ w := lw_value hw hd (by subst hx; rfl) h
theorem q_assign {x : Operand} {v : Value} (h : LW P n ops Q rest (upd ρ d v) w) (hx : ev ρ x = v := by conv => lhs; whnf) (hd : Nat.blt d n = true := by rfl) (hw : Wanted ops ρ g := by first | exact .none | exact .some ⟨_, rfl, rfl⟩) :
    LW P n ops Q (⟨some d, .assign x, T, p, af, g⟩ :: rest) ρ w := lw_value hw hd (by subst hx; rfl) h
theorem q_pick_t {c x y : Operand} {v : Value} (h : LW P n ops Q rest (upd ρ d v) w) (hc : ev ρ c = .bool true := by rfl) (hx : ev ρ x = v := by conv => lhs; whnf) (hd : Nat.blt d n = true := by rfl) (hw : Wanted ops ρ g := by first | exact .none | exact .some ⟨_, rfl, rfl⟩) :
    LW P n ops Q (⟨some d, .pick c x y, T, p, af, g⟩ :: rest) ρ w := lw_value hw hd (by subst hx; simp [execOp, hc, asBool]) h
theorem q_pick_f {c x y : Operand} {v : Value} (h : LW P n ops Q rest (upd ρ d v) w) (hc : ev ρ c = .bool false := by rfl) (hx : ev ρ y = v := by conv => lhs; whnf) (hd : Nat.blt d n = true := by rfl) (hw : Wanted ops ρ g := by first | exact .none | exact .some ⟨_, rfl, rfl⟩) :
    LW P n ops Q (⟨some d, .pick c x y, T, p, af, g⟩ :: rest) ρ w := lw_value hw hd (by subst hx; simp [execOp, hc, asBool]) h
theorem q_off {j : Nat} {b b' : Bool} {o : Op} (h : LW P n ops Q rest (upd ρ d undef) w) (hy : Yld ops ρ j b' := by exact ⟨_, rfl, rfl⟩) (hb : (b' == b) = false := by rfl) (hd : Nat.blt d n = true := by rfl) :
    LW P n ops Q (⟨some d, o, T, p, af, some (j, b)⟩ :: rest) ρ w := lw_off rfl hy (by simpa using hb) hd h
theorem q_off_none {j : Nat} {b b' : Bool} {o : Op} (h : LW P n ops Q rest ρ w) (hy : Yld ops ρ j b' := by exact ⟨_, rfl, rfl⟩) (hb : (b' == b) = false := by rfl) :
    LW P n ops Q (⟨none, o, T, p, af, some (j, b)⟩ :: rest) ρ w := lw_off rfl hy (by simpa using hb) rfl h

theorem run_binop_int {op : BinOp} {xt yt : TypeId} {x y : Operand} {k : IntKind} {a b : Int} {dst : Option Nat} {r : Value} (hx : ev ρ x = .int k a) (hy : ev ρ y = .int k b) (hr : (binOp op xt (.int k a) (.int k b)).run P w = .ok r w) :
    (execOp (ev ρ) ⟨dst, .binOp op xt x y yt, T, p, af, g⟩).run P w = .ok (.value r) w := by
  have he : (eqGuard op xt x y (.int k a) (.int k b)).run P w = .ok () w := by
    unfold eqGuard
    cases op <;> simp
  simp only [execOp, hx, hy, Sem.run_bind, he, Result.andThen_ok, hr, Sem.run_pure]
theorem run_cmp_lss {xt : TypeId} {k : IntKind} {a b : Int} : (binOp .lss xt (.int k a) (.int k b)).run P w = .ok (.bool (decide (a < b))) w := by simp [binOp, Op.intCmp]
theorem run_cmp_leq {xt : TypeId} {k : IntKind} {a b : Int} : (binOp .leq xt (.int k a) (.int k b)).run P w = .ok (.bool (decide (a ≤ b))) w := by simp [binOp, Op.intCmp]
theorem run_cmp_gtr {xt : TypeId} {k : IntKind} {a b : Int} : (binOp .gtr xt (.int k a) (.int k b)).run P w = .ok (.bool (decide (a > b))) w := by simp [binOp, Op.intCmp]
theorem run_cmp_geq {xt : TypeId} {k : IntKind} {a b : Int} : (binOp .geq xt (.int k a) (.int k b)).run P w = .ok (.bool (decide (a ≥ b))) w := by simp [binOp, Op.intCmp]
theorem run_cmp_eql {xt : TypeId} {k : IntKind} {a b : Int} : (binOp .eql xt (.int k a) (.int k b)).run P w = .ok (.bool (a == b)) w := by simp [binOp, Op.intCmp]
theorem run_cmp_neq {xt : TypeId} {k : IntKind} {a b : Int} : (binOp .neq xt (.int k a) (.int k b)).run P w = .ok (.bool (a != b)) w := by simp [binOp, Op.intCmp]
theorem q_lt_t {xt yt : TypeId} {x y : Operand} {k : IntKind} {a b : Int} (h : LW P n ops Q rest (upd ρ d (.bool true)) w) (hx : ev ρ x = .int k a := by rfl) (hy : ev ρ y = .int k b := by rfl) (hp : a < b := by omega) (hd : Nat.blt d n = true := by rfl) (hw : Wanted ops ρ g := by first | exact .none | exact .some ⟨_, rfl, rfl⟩) :
    LW P n ops Q (⟨some d, .binOp .lss xt x y yt, T, p, af, g⟩ :: rest) ρ w := lw_value hw hd (run_binop_int hx hy (by rw [run_cmp_lss, decide_eq_true hp])) h
theorem q_lt_f {xt yt : TypeId} {x y : Operand} {k : IntKind} {a b : Int} (h : LW P n ops Q rest (upd ρ d (.bool false)) w) (hx : ev ρ x = .int k a := by rfl) (hy : ev ρ y = .int k b := by rfl) (hp : b ≤ a := by omega) (hd : Nat.blt d n = true := by rfl) (hw : Wanted ops ρ g := by first | exact .none | exact .some ⟨_, rfl, rfl⟩) :
    LW P n ops Q (⟨some d, .binOp .lss xt x y yt, T, p, af, g⟩ :: rest) ρ w := lw_value hw hd (run_binop_int hx hy (by rw [run_cmp_lss, decide_eq_false (Int.not_lt.2 hp)])) h
theorem q_lt_s {xt yt : TypeId} {x y : Operand} {k : IntKind} {a b : Int} (ht : a < b → LW P n ops Q rest (upd ρ d (.bool true)) w) (hf : b ≤ a → LW P n ops Q rest (upd ρ d (.bool false)) w) (hx : ev ρ x = .int k a := by rfl) (hy : ev ρ y = .int k b := by rfl) (hd : Nat.blt d n = true := by rfl) (hw : Wanted ops ρ g := by first | exact .none | exact .some ⟨_, rfl, rfl⟩) :
    LW P n ops Q (⟨some d, .binOp .lss xt x y yt, T, p, af, g⟩ :: rest) ρ w := by
  by_cases hp : a < b
  · exact q_lt_t (ht hp) hx hy hp hd hw
  · exact q_lt_f (hf (by omega)) hx hy (by omega) hd hw
theorem q_le_t {xt yt : TypeId} {x y : Operand} {k : IntKind} {a b : Int} (h : LW P n ops Q rest (upd ρ d (.bool true)) w) (hx : ev ρ x = .int k a := by rfl) (hy : ev ρ y = .int k b := by rfl) (hp : a ≤ b := by omega) (hd : Nat.blt d n = true := by rfl) (hw : Wanted ops ρ g := by first | exact .none | exact .some ⟨_, rfl, rfl⟩) :
    LW P n ops Q (⟨some d, .binOp .leq xt x y yt, T, p, af, g⟩ :: rest) ρ w := lw_value hw hd (run_binop_int hx hy (by rw [run_cmp_leq, decide_eq_true hp])) h
theorem q_le_f {xt yt : TypeId} {x y : Operand} {k : IntKind} {a b : Int} (h : LW P n ops Q rest (upd ρ d (.bool false)) w) (hx : ev ρ x = .int k a := by rfl) (hy : ev ρ y = .int k b := by rfl) (hp : b < a := by omega) (hd : Nat.blt d n = true := by rfl) (hw : Wanted ops ρ g := by first | exact .none | exact .some ⟨_, rfl, rfl⟩) :
    LW P n ops Q (⟨some d, .binOp .leq xt x y yt, T, p, af, g⟩ :: rest) ρ w := lw_value hw hd (run_binop_int hx hy (by rw [run_cmp_leq, decide_eq_false (Int.not_le.2 hp)])) h
theorem q_le_s {xt yt : TypeId} {x y : Operand} {k : IntKind} {a b : Int} (ht : a ≤ b → LW P n ops Q rest (upd ρ d (.bool true)) w) (hf : b < a → LW P n ops Q rest (upd ρ d (.bool false)) w) (hx : ev ρ x = .int k a := by rfl) (hy : ev ρ y = .int k b := by rfl) (hd : Nat.blt d n = true := by rfl) (hw : Wanted ops ρ g := by first | exact .none | exact .some ⟨_, rfl, rfl⟩) :
    LW P n ops Q (⟨some d, .binOp .leq xt x y yt, T, p, af, g⟩ :: rest) ρ w := by
  by_cases hp : a ≤ b
  · exact q_le_t (ht hp) hx hy hp hd hw
  · exact q_le_f (hf (by omega)) hx hy (by omega) hd hw
theorem q_gt_t {xt yt : TypeId} {x y : Operand} {k : IntKind} {a b : Int} (h : LW P n ops Q rest (upd ρ d (.bool true)) w) (hx : ev ρ x = .int k a := by rfl) (hy : ev ρ y = .int k b := by rfl) (hp : b < a := by omega) (hd : Nat.blt d n = true := by rfl) (hw : Wanted ops ρ g := by first | exact .none | exact .some ⟨_, rfl, rfl⟩) :
    LW P n ops Q (⟨some d, .binOp .gtr xt x y yt, T, p, af, g⟩ :: rest) ρ w := lw_value hw hd (run_binop_int hx hy (by rw [run_cmp_gtr, decide_eq_true hp])) h
theorem q_gt_f {xt yt : TypeId} {x y : Operand} {k : IntKind} {a b : Int} (h : LW P n ops Q rest (upd ρ d (.bool false)) w) (hx : ev ρ x = .int k a := by rfl) (hy : ev ρ y = .int k b := by rfl) (hp : a ≤ b := by omega) (hd : Nat.blt d n = true := by rfl) (hw : Wanted ops ρ g := by first | exact .none | exact .some ⟨_, rfl, rfl⟩) :
    LW P n ops Q (⟨some d, .binOp .gtr xt x y yt, T, p, af, g⟩ :: rest) ρ w := lw_value hw hd (run_binop_int hx hy (by rw [run_cmp_gtr, decide_eq_false (Int.not_lt.2 hp)])) h
theorem q_gt_s {xt yt : TypeId} {x y : Operand} {k : IntKind} {a b : Int} (ht : b < a → LW P n ops Q rest (upd ρ d (.bool true)) w) (hf : a ≤ b → LW P n ops Q rest (upd ρ d (.bool false)) w) (hx : ev ρ x = .int k a := by rfl) (hy : ev ρ y = .int k b := by rfl) (hd : Nat.blt d n = true := by rfl) (hw : Wanted ops ρ g := by first | exact .none | exact .some ⟨_, rfl, rfl⟩) :
    LW P n ops Q (⟨some d, .binOp .gtr xt x y yt, T, p, af, g⟩ :: rest) ρ w := by
  by_cases hp : b < a
  · exact q_gt_t (ht hp) hx hy hp hd hw
  · exact q_gt_f (hf (by omega)) hx hy (by omega) hd hw
theorem q_ge_t {xt yt : TypeId} {x y : Operand} {k : IntKind} {a b : Int} (h : LW P n ops Q rest (upd ρ d (.bool true)) w) (hx : ev ρ x = .int k a := by rfl) (hy : ev ρ y = .int k b := by rfl) (hp : b ≤ a := by omega) (hd : Nat.blt d n = true := by rfl) (hw : Wanted ops ρ g := by first | exact .none | exact .some ⟨_, rfl, rfl⟩) :
    LW P n ops Q (⟨some d, .binOp .geq xt x y yt, T, p, af, g⟩ :: rest) ρ w := lw_value hw hd (run_binop_int hx hy (by rw [run_cmp_geq, decide_eq_true hp])) h
theorem q_ge_f {xt yt : TypeId} {x y : Operand} {k : IntKind} {a b : Int} (h : LW P n ops Q rest (upd ρ d (.bool false)) w) (hx : ev ρ x = .int k a := by rfl) (hy : ev ρ y = .int k b := by rfl) (hp : a < b := by omega) (hd : Nat.blt d n = true := by rfl) (hw : Wanted ops ρ g := by first | exact .none | exact .some ⟨_, rfl, rfl⟩) :
    LW P n ops Q (⟨some d, .binOp .geq xt x y yt, T, p, af, g⟩ :: rest) ρ w := lw_value hw hd (run_binop_int hx hy (by rw [run_cmp_geq, decide_eq_false (Int.not_le.2 hp)])) h
theorem q_ge_s {xt yt : TypeId} {x y : Operand} {k : IntKind} {a b : Int} (ht : b ≤ a → LW P n ops Q rest (upd ρ d (.bool true)) w) (hf : a < b → LW P n ops Q rest (upd ρ d (.bool false)) w) (hx : ev ρ x = .int k a := by rfl) (hy : ev ρ y = .int k b := by rfl) (hd : Nat.blt d n = true := by rfl) (hw : Wanted ops ρ g := by first | exact .none | exact .some ⟨_, rfl, rfl⟩) :
    LW P n ops Q (⟨some d, .binOp .geq xt x y yt, T, p, af, g⟩ :: rest) ρ w := by
  by_cases hp : b ≤ a
  · exact q_ge_t (ht hp) hx hy hp hd hw
  · exact q_ge_f (hf (by omega)) hx hy (by omega) hd hw
theorem q_eq_t {xt yt : TypeId} {x y : Operand} {k : IntKind} {a b : Int} (h : LW P n ops Q rest (upd ρ d (.bool true)) w) (hx : ev ρ x = .int k a := by rfl) (hy : ev ρ y = .int k b := by rfl) (hp : a = b := by omega) (hd : Nat.blt d n = true := by rfl) (hw : Wanted ops ρ g := by first | exact .none | exact .some ⟨_, rfl, rfl⟩) :
    LW P n ops Q (⟨some d, .binOp .eql xt x y yt, T, p, af, g⟩ :: rest) ρ w := lw_value hw hd (run_binop_int hx hy (by rw [run_cmp_eql, beq_iff_eq.2 hp])) h
theorem q_eq_f {xt yt : TypeId} {x y : Operand} {k : IntKind} {a b : Int} (h : LW P n ops Q rest (upd ρ d (.bool false)) w) (hx : ev ρ x = .int k a := by rfl) (hy : ev ρ y = .int k b := by rfl) (hp : a ≠ b := by omega) (hd : Nat.blt d n = true := by rfl) (hw : Wanted ops ρ g := by first | exact .none | exact .some ⟨_, rfl, rfl⟩) :
    LW P n ops Q (⟨some d, .binOp .eql xt x y yt, T, p, af, g⟩ :: rest) ρ w := lw_value hw hd (run_binop_int hx hy (by rw [run_cmp_eql, beq_eq_false_iff_ne.2 hp])) h
theorem q_eq_s {xt yt : TypeId} {x y : Operand} {k : IntKind} {a b : Int} (ht : a = b → LW P n ops Q rest (upd ρ d (.bool true)) w) (hf : a ≠ b → LW P n ops Q rest (upd ρ d (.bool false)) w) (hx : ev ρ x = .int k a := by rfl) (hy : ev ρ y = .int k b := by rfl) (hd : Nat.blt d n = true := by rfl) (hw : Wanted ops ρ g := by first | exact .none | exact .some ⟨_, rfl, rfl⟩) :
    LW P n ops Q (⟨some d, .binOp .eql xt x y yt, T, p, af, g⟩ :: rest) ρ w := by
  by_cases hp : a = b
  · exact q_eq_t (ht hp) hx hy hp hd hw
  · exact q_eq_f (hf (by omega)) hx hy (by omega) hd hw
theorem q_ne_t {xt yt : TypeId} {x y : Operand} {k : IntKind} {a b : Int} (h : LW P n ops Q rest (upd ρ d (.bool true)) w) (hx : ev ρ x = .int k a := by rfl) (hy : ev ρ y = .int k b := by rfl) (hp : a ≠ b := by omega) (hd : Nat.blt d n = true := by rfl) (hw : Wanted ops ρ g := by first | exact .none | exact .some ⟨_, rfl, rfl⟩) :
    LW P n ops Q (⟨some d, .binOp .neq xt x y yt, T, p, af, g⟩ :: rest) ρ w := lw_value hw hd (run_binop_int hx hy (by rw [run_cmp_neq, bne_iff_ne.2 hp])) h
theorem q_ne_f {xt yt : TypeId} {x y : Operand} {k : IntKind} {a b : Int} (h : LW P n ops Q rest (upd ρ d (.bool false)) w) (hx : ev ρ x = .int k a := by rfl) (hy : ev ρ y = .int k b := by rfl) (hp : a = b := by omega) (hd : Nat.blt d n = true := by rfl) (hw : Wanted ops ρ g := by first | exact .none | exact .some ⟨_, rfl, rfl⟩) :
    LW P n ops Q (⟨some d, .binOp .neq xt x y yt, T, p, af, g⟩ :: rest) ρ w := lw_value hw hd (run_binop_int hx hy (by rw [run_cmp_neq, hp]; simp)) h
theorem q_ne_s {xt yt : TypeId} {x y : Operand} {k : IntKind} {a b : Int} (ht : a ≠ b → LW P n ops Q rest (upd ρ d (.bool true)) w) (hf : a = b → LW P n ops Q rest (upd ρ d (.bool false)) w) (hx : ev ρ x = .int k a := by rfl) (hy : ev ρ y = .int k b := by rfl) (hd : Nat.blt d n = true := by rfl) (hw : Wanted ops ρ g := by first | exact .none | exact .some ⟨_, rfl, rfl⟩) :
    LW P n ops Q (⟨some d, .binOp .neq xt x y yt, T, p, af, g⟩ :: rest) ρ w := by
  by_cases hp : a ≠ b
  · exact q_ne_t (ht hp) hx hy hp hd hw
  · exact q_ne_f (hf (by omega)) hx hy (by omega) hd hw
theorem q_add64 {xt yt : TypeId} {x y : Operand} {a b c : Int} (h : LW P n ops Q rest (upd ρ d (.int .i64 c)) w) (hx : ev ρ x = .int .i64 a := by rfl) (hy : ev ρ y = .int .i64 b := by rfl) (hc : a + b = c := by conv => lhs; first | simp only [Int.reduceAdd, Int.reduceSub, Int.reduceMul, Int.zero_add, Int.add_zero, Int.mul_one, Int.one_mul] | skip)
    (h1 : -9223372036854775808 ≤ a + b := by omega) (h2 : a + b ≤ 9223372036854775807 := by omega) (hd : Nat.blt d n = true := by rfl) (hw : Wanted ops ρ g := by first | exact .none | exact .some ⟨_, rfl, rfl⟩) :
    LW P n ops Q (⟨some d, .binOp .add xt x y yt, T, p, af, g⟩ :: rest) ρ w := lw_value hw hd (run_binop_int hx hy (by subst hc; simp [binOp, Op.intArith]; exact IntWalk.i64_in _ ⟨h1, h2⟩)) h
theorem q_addW {xt yt : TypeId} {x y : Operand} {k : IntKind} {a b c : Int} (h : LW P n ops Q rest (upd ρ d (.int k c)) w) (hc : k.wrap (a + b) = c) (hx : ev ρ x = .int k a := by rfl) (hy : ev ρ y = .int k b := by rfl)
    (hd : Nat.blt d n = true := by rfl) (hw : Wanted ops ρ g := by first | exact .none | exact .some ⟨_, rfl, rfl⟩) :
    LW P n ops Q (⟨some d, .binOp .add xt x y yt, T, p, af, g⟩ :: rest) ρ w := lw_value hw hd (run_binop_int hx hy (by subst hc; simp [binOp, Op.intArith])) h
theorem q_sub64 {xt yt : TypeId} {x y : Operand} {a b c : Int} (h : LW P n ops Q rest (upd ρ d (.int .i64 c)) w) (hx : ev ρ x = .int .i64 a := by rfl) (hy : ev ρ y = .int .i64 b := by rfl) (hc : a - b = c := by conv => lhs; first | simp only [Int.reduceAdd, Int.reduceSub, Int.reduceMul, Int.zero_add, Int.add_zero, Int.mul_one, Int.one_mul] | skip)
    (h1 : -9223372036854775808 ≤ a - b := by omega) (h2 : a - b ≤ 9223372036854775807 := by omega) (hd : Nat.blt d n = true := by rfl) (hw : Wanted ops ρ g := by first | exact .none | exact .some ⟨_, rfl, rfl⟩) :
    LW P n ops Q (⟨some d, .binOp .sub xt x y yt, T, p, af, g⟩ :: rest) ρ w := lw_value hw hd (run_binop_int hx hy (by subst hc; simp [binOp, Op.intArith]; exact IntWalk.i64_in _ ⟨h1, h2⟩)) h
theorem q_subW {xt yt : TypeId} {x y : Operand} {k : IntKind} {a b c : Int} (h : LW P n ops Q rest (upd ρ d (.int k c)) w) (hc : k.wrap (a - b) = c) (hx : ev ρ x = .int k a := by rfl) (hy : ev ρ y = .int k b := by rfl)
    (hd : Nat.blt d n = true := by rfl) (hw : Wanted ops ρ g := by first | exact .none | exact .some ⟨_, rfl, rfl⟩) :
    LW P n ops Q (⟨some d, .binOp .sub xt x y yt, T, p, af, g⟩ :: rest) ρ w := lw_value hw hd (run_binop_int hx hy (by subst hc; simp [binOp, Op.intArith])) h
theorem q_mul64 {xt yt : TypeId} {x y : Operand} {a b c : Int} (h : LW P n ops Q rest (upd ρ d (.int .i64 c)) w) (hx : ev ρ x = .int .i64 a := by rfl) (hy : ev ρ y = .int .i64 b := by rfl) (hc : a * b = c := by conv => lhs; first | simp only [Int.reduceAdd, Int.reduceSub, Int.reduceMul, Int.zero_add, Int.add_zero, Int.mul_one, Int.one_mul] | skip)
    (h1 : -9223372036854775808 ≤ a * b := by omega) (h2 : a * b ≤ 9223372036854775807 := by omega) (hd : Nat.blt d n = true := by rfl) (hw : Wanted ops ρ g := by first | exact .none | exact .some ⟨_, rfl, rfl⟩) :
    LW P n ops Q (⟨some d, .binOp .mul xt x y yt, T, p, af, g⟩ :: rest) ρ w := lw_value hw hd (run_binop_int hx hy (by subst hc; simp [binOp, Op.intArith]; exact IntWalk.i64_in _ ⟨h1, h2⟩)) h
theorem q_mulW {xt yt : TypeId} {x y : Operand} {k : IntKind} {a b c : Int} (h : LW P n ops Q rest (upd ρ d (.int k c)) w) (hc : k.wrap (a * b) = c) (hx : ev ρ x = .int k a := by rfl) (hy : ev ρ y = .int k b := by rfl)
    (hd : Nat.blt d n = true := by rfl) (hw : Wanted ops ρ g := by first | exact .none | exact .some ⟨_, rfl, rfl⟩) :
    LW P n ops Q (⟨some d, .binOp .mul xt x y yt, T, p, af, g⟩ :: rest) ρ w := lw_value hw hd (run_binop_int hx hy (by subst hc; simp [binOp, Op.intArith])) h
theorem q_quo64 {xt yt : TypeId} {x y : Operand} {a b : Int} {c : Int} (h : LW P n ops Q rest (upd ρ d (.int .i64 c)) w) (hx : ev ρ x = .int .i64 a := by rfl) (hy : ev ρ y = .int .i64 b := by rfl) (hc : a / b = c := by conv => lhs; first | simp only [Int.reduceDiv, Int.reduceMod] | skip)
    (h0 : 0 ≤ a := by omega) (h1 : a ≤ 9223372036854775807 := by omega) (hb : 0 < b := by omega) (hd : Nat.blt d n = true := by rfl) (hw : Wanted ops ρ g := by first | exact .none | exact .some ⟨_, rfl, rfl⟩) :
    LW P n ops Q (⟨some d, .binOp .quo xt x y yt, T, p, af, g⟩ :: rest) ρ w := lw_value hw hd (run_binop_int hx hy (by
      subst hc
      have hq : a.tdiv b = a / b := Int.tdiv_eq_ediv_of_nonneg h0
      have h2 : 0 ≤ a / b := Int.ediv_nonneg h0 (by omega)
      have h3 : a / b ≤ a := Int.ediv_le_self _ h0
      have hb0 : ¬ b = 0 := by omega
      simp [binOp, Op.intDiv, hb0, hq]; exact IntWalk.i64_in _ ⟨by omega, by omega⟩)) h
theorem q_rem64 {xt yt : TypeId} {x y : Operand} {k : IntKind} {a b : Int} {c : Int} (h : LW P n ops Q rest (upd ρ d (.int k c)) w) (hx : ev ρ x = .int k a := by rfl) (hy : ev ρ y = .int k b := by rfl) (hc : a % b = c := by conv => lhs; first | simp only [Int.reduceDiv, Int.reduceMod] | skip)
    (h0 : 0 ≤ a := by omega) (hb : 0 < b := by omega) (hd : Nat.blt d n = true := by rfl) (hw : Wanted ops ρ g := by first | exact .none | exact .some ⟨_, rfl, rfl⟩) :
    LW P n ops Q (⟨some d, .binOp .rem xt x y yt, T, p, af, g⟩ :: rest) ρ w := lw_value hw hd (run_binop_int hx hy (by
      subst hc
      have hq : a.tmod b = a % b := Int.tmod_eq_emod_of_nonneg h0
      have hb0 : ¬ b = 0 := by omega
      simp [binOp, Op.intDiv, hb0, hq])) h
theorem q_remW {xt yt : TypeId} {x y : Operand} {k : IntKind} {a b c : Int} (h : LW P n ops Q rest (upd ρ d (.int k c)) w) (hc : a.tmod b = c) (hx : ev ρ x = .int k a := by rfl) (hy : ev ρ y = .int k b := by rfl)
    (hb : b ≠ 0 := by omega) (hd : Nat.blt d n = true := by rfl) (hw : Wanted ops ρ g := by first | exact .none | exact .some ⟨_, rfl, rfl⟩) :
    LW P n ops Q (⟨some d, .binOp .rem xt x y yt, T, p, af, g⟩ :: rest) ρ w := lw_value hw hd (run_binop_int hx hy (by subst hc; simp [binOp, Op.intDiv, hb])) h
theorem q_quoW {xt yt : TypeId} {x y : Operand} {k : IntKind} {a b c : Int} (h : LW P n ops Q rest (upd ρ d (.int k c)) w) (hc : k.wrap (a.tdiv b) = c) (hx : ev ρ x = .int k a := by rfl) (hy : ev ρ y = .int k b := by rfl)
    (hb : b ≠ 0 := by omega) (hd : Nat.blt d n = true := by rfl) (hw : Wanted ops ρ g := by first | exact .none | exact .some ⟨_, rfl, rfl⟩) :
    LW P n ops Q (⟨some d, .binOp .quo xt x y yt, T, p, af, g⟩ :: rest) ρ w := lw_value hw hd (run_binop_int hx hy (by subst hc; simp [binOp, Op.intDiv, hb])) h
/-- Any operation on two whole numbers, by its own equation. -/
theorem q_int {op : BinOp} {xt yt : TypeId} {x y : Operand} {k : IntKind} {a b : Int} {r : Value} (h : LW P n ops Q rest (upd ρ d r) w) (hr : (binOp op xt (.int k a) (.int k b)).run P w = .ok r w) (hx : ev ρ x = .int k a := by rfl) (hy : ev ρ y = .int k b := by rfl)
    (hd : Nat.blt d n = true := by rfl) (hw : Wanted ops ρ g := by first | exact .none | exact .some ⟨_, rfl, rfl⟩) :
    LW P n ops Q (⟨some d, .binOp op xt x y yt, T, p, af, g⟩ :: rest) ρ w := lw_value hw hd (run_binop_int hx hy hr) h
theorem run_binop_shift {op : BinOp} {xt yt : TypeId} {x y : Operand} {k k' : IntKind} {a b : Int} {dst : Option Nat} {r : Value} (hx : ev ρ x = .int k a) (hy : ev ρ y = .int k' b) (ho : op = .shl ∨ op = .shr) (hr : (Op.shift op k a k' b).run P w = .ok r w) :
    (execOp (ev ρ) ⟨dst, .binOp op xt x y yt, T, p, af, g⟩).run P w = .ok (.value r) w := by
  rcases ho with rfl | rfl
  all_goals
    have he : ∀ o : BinOp, (o = .shl ∨ o = .shr) → (eqGuard o xt x y (.int k a) (.int k' b)).run P w = .ok () w := fun o ho => by rcases ho with rfl | rfl <;> simp [eqGuard]
    simp only [execOp, hx, hy, binOp, Sem.run_bind, he, Sem.run_pure, Result.andThen_ok, hr, true_or, or_true]
theorem q_shlW {xt yt : TypeId} {x y : Operand} {k k' : IntKind} {a c : Int} {b : Nat} (h : LW P n ops Q rest (upd ρ d (.int k c)) w) (hc : k.wrap (a * 2 ^ b) = c) (hx : ev ρ x = .int k a := by rfl) (hy : ev ρ y = .int k' b := by rfl)
    (hb : b ≤ k.bits := by decide) (hd : Nat.blt d n = true := by rfl) (hw : Wanted ops ρ g := by first | exact .none | exact .some ⟨_, rfl, rfl⟩) :
    LW P n ops Q (⟨some d, .binOp .shl xt x y yt, T, p, af, g⟩ :: rest) ρ w := lw_value hw hd (run_binop_shift hx hy (.inl rfl) (by subst hc; have hn : ¬ (b : Int) < 0 := Int.not_lt.2 (Int.natCast_nonneg b); simp [Op.shift, Nat.min_eq_left hb, hn])) h
theorem q_shr {xt yt : TypeId} {x y : Operand} {k k' : IntKind} {a : Int} {b : Nat} (h : LW P n ops Q rest (upd ρ d (.int k (a.fdiv (2 ^ b)))) w) (hx : ev ρ x = .int k a := by rfl) (hy : ev ρ y = .int k' b := by rfl)
    (hb : b ≤ k.bits := by decide) (hd : Nat.blt d n = true := by rfl) (hw : Wanted ops ρ g := by first | exact .none | exact .some ⟨_, rfl, rfl⟩) :
    LW P n ops Q (⟨some d, .binOp .shr xt x y yt, T, p, af, g⟩ :: rest) ρ w := lw_value hw hd (run_binop_shift hx hy (.inr rfl) (by have hn : ¬ (b : Int) < 0 := Int.not_lt.2 (Int.natCast_nonneg b); simp [Op.shift, Nat.min_eq_left hb, hn])) h
theorem q_not_t {xt : TypeId} {x : Operand} (h : LW P n ops Q rest (upd ρ d (.bool false)) w) (hx : ev ρ x = .bool true := by rfl) (hd : Nat.blt d n = true := by rfl) (hw : Wanted ops ρ g := by first | exact .none | exact .some ⟨_, rfl, rfl⟩) :
    LW P n ops Q (⟨some d, .unOp .not xt x, T, p, af, g⟩ :: rest) ρ w := lw_value hw hd (by simp [execOp, hx, Op.unary]) h
theorem q_not_f {xt : TypeId} {x : Operand} (h : LW P n ops Q rest (upd ρ d (.bool true)) w) (hx : ev ρ x = .bool false := by rfl) (hd : Nat.blt d n = true := by rfl) (hw : Wanted ops ρ g := by first | exact .none | exact .some ⟨_, rfl, rfl⟩) :
    LW P n ops Q (⟨some d, .unOp .not xt x, T, p, af, g⟩ :: rest) ρ w := lw_value hw hd (by simp [execOp, hx, Op.unary]) h
/-- Any operation on one value, by its own equation. -/
theorem q_un {op : UnOp} {xt : TypeId} {x : Operand} {v r : Value} (h : LW P n ops Q rest (upd ρ d r) w) (hr : (Op.unary op v).run P w = .ok r w) (hx : ev ρ x = v := by rfl) (hd : Nat.blt d n = true := by rfl) (hw : Wanted ops ρ g := by first | exact .none | exact .some ⟨_, rfl, rfl⟩) :
    LW P n ops Q (⟨some d, .unOp op xt x, T, p, af, g⟩ :: rest) ρ w := lw_value hw hd (by simp [execOp, hx, hr]) h
theorem q_extract {x : Operand} {i : Nat} {vs : List Value} {v : Value} (h : LW P n ops Q rest (upd ρ d v) w) (hx : ev ρ x = .tuple vs.toArray := by rfl) (hv : vs[i]? = some v := by rfl) (hd : Nat.blt d n = true := by rfl) (hw : Wanted ops ρ g := by first | exact .none | exact .some ⟨_, rfl, rfl⟩) :
    LW P n ops Q (⟨some d, .extract x i, T, p, af, g⟩ :: rest) ρ w := lw_value hw hd (by simp [execOp, hx, Instr.extract, hv]) h
theorem q_nilCheck {x : Operand} {a : Addr} (h : LW P n ops Q rest (upd ρ d (.pointer (some a))) w) (hx : ev ρ x = .pointer (some a) := by rfl) (hd : Nat.blt d n = true := by rfl) (hw : Wanted ops ρ g := by first | exact .none | exact .some ⟨_, rfl, rfl⟩) :
    LW P n ops Q (⟨some d, .nilCheck x, T, p, af, g⟩ :: rest) ρ w := lw_value hw hd (by simp [execOp, hx]) h
/-- A pointer held against nil. -/
theorem run_binop_ptr {op : BinOp} {xt yt : TypeId} {x y : Operand} {u v : Value} {dst : Option Nat} {r : Value} (hx : ev ρ x = u) (hy : ev ρ y = v) (he : (eqGuard op xt x y u v).run P w = .ok () w) (hr : (binOp op xt u v).run P w = .ok r w) :
    (execOp (ev ρ) ⟨dst, .binOp op xt x y yt, T, p, af, g⟩).run P w = .ok (.value r) w := by
  simp only [execOp, hx, hy, Sem.run_bind, he, Result.andThen_ok, hr, Sem.run_pure]
end
end Go.Proofs.Ytbdkicmdidcdcaa
namespace Go.Proofs.Ytbdkicmdidcdcaa
open Go.RowKit

def TypeDesc.wide : TypeDesc → Bool
  | .struct _ | .array _ _ => true
  | _ => false
/-- A struct or an array of n cells. -/
class AggOf (P : Program) (t : TypeId) (n : outParam Nat) : Prop where
  out : ∃ d, P.underlying t = some d ∧ TypeDesc.wide d = true ∧ (P.info? t).map (·.size) = some n
/-- What takes one cell. -/
class CellOf (P : Program) (t : TypeId) : Prop where
  out : ∃ d, P.underlying t = some d ∧ TypeDesc.wide d = false ∧ (P.info? t).map (·.size) = some 1
class FldAt (P : Program) (s i : Nat) (o : outParam Nat) (ty : outParam TypeId) (n : outParam Nat) : Prop where
  out : ∃ fs, P.underlying s = some (.struct fs) ∧ ∃ f, fs[i]? = some f ∧ f.offset = o ∧ f.type = ty ∧ (P.info? ty).map (·.size) = some n ∧ n ≠ 0
class ArrOf (P : Program) (t : TypeId) (n : outParam Nat) (e : outParam TypeId) (k : outParam Nat) : Prop where
  und : P.underlying t = some (.array n e)
  size : (P.info? e).map (·.size) = some k
class SlOf (P : Program) (t : TypeId) (e : outParam TypeId) (z : outParam (List Value)) (k b : outParam Nat) : Prop where
  und : P.underlying t = some (.slice e)
  info : (P.info? e).map (fun i => (i.zero.map Value.cells, i.size, i.bytes)) = some (some z.toArray, k, b)
  zl : z.length = k
class IntOf (P : Program) (t : TypeId) (k : outParam IntKind) : Prop where
  und : P.underlying t = some (.int k)
class StrOf (P : Program) (t : TypeId) : Prop where
  und : P.underlying t = some .string
class MapOf (P : Program) (t : TypeId) (k e : outParam TypeId) : Prop where
  und : P.underlying t = some (.map k e)
class PtrOf (P : Program) (t : TypeId) : Prop where
  und : P.underlying t = some (.pointer (P.pointee t))
class ZeroOf (P : Program) (t : TypeId) (z : outParam (List Value)) : Prop where
  zero : (P.info? t).map (fun i => i.zero.map Value.cells) = some (some z.toArray)
end Go.Proofs.Ytbdkicmdidcdcaa
namespace Go.Proofs.Ytbdkicmdidcdcaa
open Go.RowKit

section
variable {P : Program} {n : Nat} {Q : Post} {ρ : Env} {w : World} {ops : Array Oper} {rest : List Oper} {d : Nat} {T : TypeId} {p : String} {af : Array Edge} {gd : Option (Nat × Bool)}
variable {S : Nat → Prop} {w0 : World} {L M : List Res}

theorem run_isAgg_t {t k : Nat} [h : AggOf P t k] (w : World) : (isAgg t).run P w = .ok true w := by
  obtain ⟨d, hu, hd, _⟩ := h.out
  unfold isAgg
  rw [Sem.run_bind, run_underlying hu w]
  cases d <;> simp_all [TypeDesc.wide]
theorem run_isAgg_f {t : Nat} [h : CellOf P t] (w : World) : (isAgg t).run P w = .ok false w := by
  obtain ⟨d, hu, hd, _⟩ := h.out
  unfold isAgg
  rw [Sem.run_bind, run_underlying hu w]
  cases d <;> simp_all [TypeDesc.wide]
theorem AggOf.size {t k : Nat} (h : AggOf P t k) : (P.info? t).map (·.size) = some k := let ⟨_, _, _, a⟩ := h.out; a
theorem CellOf.size {t : Nat} (h : CellOf P t) : (P.info? t).map (·.size) = some 1 := let ⟨_, _, _, a⟩ := h.out; a
theorem run_sizeOf_of {t k : Nat} (h : (P.info? t).map (·.size) = some k) (w : World) : (sizeOf t).run P w = .ok k w := by
  cases hq : P.info? t with
  | none => simp [hq] at h
  | some i => simp [hq] at h; simp [sizeOf, typeInfo, hq, h]
theorem run_loadVar_cell {t : Nat} [CellOf P t] {w : World} {a : Addr} {v : Value} (hc : w.cell? a = some v) : (loadVar t a).run P w = .ok v w := by
  unfold loadVar
  rw [Sem.run_bind, run_isAgg_f w]
  simp only [Result.andThen_ok, Bool.false_eq_true, if_false]
  simp [run_load, hc]

theorem q_nil_eq_f {xt yt : TypeId} [ht : PtrOf P xt] {x y : Operand} {a : Addr} (h : LW P n ops Q rest (upd ρ d (.bool false)) w) (hx : ev ρ x = .pointer (some a) := by rfl) (hy : ev ρ y = .pointer none := by rfl) (hd : Nat.blt d n = true := by rfl) (hw : Wanted ops ρ gd := by first | exact .none | exact .some ⟨_, rfl, rfl⟩) :
    LW P n ops Q (⟨some d, .binOp .eql xt x y yt, T, p, af, gd⟩ :: rest) ρ w := lw_value hw hd (run_binop_ptr hx hy (by simp [eqGuard]) (by rw [run_eql_pointer_nil _ _ _ ht.und]; rfl)) h
theorem q_nil_eq_t {xt yt : TypeId} [ht : PtrOf P xt] {x y : Operand} (h : LW P n ops Q rest (upd ρ d (.bool true)) w) (hx : ev ρ x = .pointer none := by rfl) (hy : ev ρ y = .pointer none := by rfl) (hd : Nat.blt d n = true := by rfl) (hw : Wanted ops ρ gd := by first | exact .none | exact .some ⟨_, rfl, rfl⟩) :
    LW P n ops Q (⟨some d, .binOp .eql xt x y yt, T, p, af, gd⟩ :: rest) ρ w := lw_value hw hd (run_binop_ptr hx hy (by simp [eqGuard]) (by rw [run_eql_pointer_nil _ _ _ ht.und]; rfl)) h
theorem q_nil_ne_t {xt yt : TypeId} [ht : PtrOf P xt] {x y : Operand} {a : Addr} (h : LW P n ops Q rest (upd ρ d (.bool true)) w) (hx : ev ρ x = .pointer (some a) := by rfl) (hy : ev ρ y = .pointer none := by rfl) (hd : Nat.blt d n = true := by rfl) (hw : Wanted ops ρ gd := by first | exact .none | exact .some ⟨_, rfl, rfl⟩) :
    LW P n ops Q (⟨some d, .binOp .neq xt x y yt, T, p, af, gd⟩ :: rest) ρ w := lw_value hw hd (run_binop_ptr hx hy (by simp [eqGuard]) (by rw [run_neq_pointer_nil _ _ _ ht.und]; rfl)) h
theorem q_nil_ne_f {xt yt : TypeId} [ht : PtrOf P xt] {x y : Operand} (h : LW P n ops Q rest (upd ρ d (.bool false)) w) (hx : ev ρ x = .pointer none := by rfl) (hy : ev ρ y = .pointer none := by rfl) (hd : Nat.blt d n = true := by rfl) (hw : Wanted ops ρ gd := by first | exact .none | exact .some ⟨_, rfl, rfl⟩) :
    LW P n ops Q (⟨some d, .binOp .neq xt x y yt, T, p, af, gd⟩ :: rest) ρ w := lw_value hw hd (run_binop_ptr hx hy (by simp [eqGuard]) (by rw [run_neq_pointer_nil _ _ _ ht.und]; rfl)) h
/-- A whole number of another kind. -/
theorem q_conv {s t : TypeId} {x : Operand} {k k' : IntKind} {a c : Int} [hs : CellOf P s] [ht : IntOf P t k'] (h : LW P n ops Q rest (upd ρ d (.int k' c)) w) (hc : k'.wrap a = c) (hx : ev ρ x = .int k a := by rfl) (hd : Nat.blt d n = true := by rfl) (hw : Wanted ops ρ gd := by first | exact .none | exact .some ⟨_, rfl, rfl⟩) :
    LW P n ops Q (⟨some d, .convert s t x, T, p, af, gd⟩ :: rest) ρ w := by
  obtain ⟨ds, hu, _, _⟩ := hs.out
  refine lw_value hw hd (w' := w) ?_ h
  subst hc
  simp only [execOp, convert, hx, Sem.run_bind, run_underlying hu, run_underlying ht.und, Result.andThen_ok]
  simp [Conv.intToInt]
theorem q_conv64 {s t : TypeId} {x : Operand} {k : IntKind} {a : Int} [hs : CellOf P s] [ht : IntOf P t .i64] (h : LW P n ops Q rest (upd ρ d (.int .i64 a)) w) (hx : ev ρ x = .int k a := by rfl) (h1 : -9223372036854775808 ≤ a := by omega) (h2 : a ≤ 9223372036854775807 := by omega) (hd : Nat.blt d n = true := by rfl) (hw : Wanted ops ρ gd := by first | exact .none | exact .some ⟨_, rfl, rfl⟩) :
    LW P n ops Q (⟨some d, .convert s t x, T, p, af, gd⟩ :: rest) ρ w := q_conv h (IntWalk.i64_in _ ⟨h1, h2⟩) hx hd hw
/-- A load of one cell. -/
theorem q_loadC {t : Nat} {x : Operand} {a : Addr} {v : Value} [CellOf P t] (h : LW P n ops Q rest (upd ρ d v) w) (hc : w.cell? a = some v) (hx : ev ρ x = .pointer (some a) := by rfl) (hd : Nat.blt d n = true := by rfl) (hw : Wanted ops ρ gd := by first | exact .none | exact .some ⟨_, rfl, rfl⟩) :
    LW P n ops Q (⟨some d, .load t x, T, p, af, gd⟩ :: rest) ρ w := lw_value hw hd (by simp [execOp, hx, Instr.loadAt, Instr.sureAddr, run_loadVar_cell hc]) h
theorem q_load {t : Nat} {x : Operand} {g off : Nat} {v : Value} {l : List Value} {tt : TypeId} {fz : Nat × Nat} [CellOf P t] (H : St S w0 L w) (h : LW P n ops Q rest (upd ρ d v) w) (hx : ev ρ x = .pointer (some ⟨g, off, none⟩) := by rfl)
    (ht : Take L (.pt g (.cells l.toArray tt fz)) M := by first | exact .z | exact .s .z | exact .s (.s .z) | exact .s (.s (.s .z)) | exact .s (.s (.s (.s .z))) | exact .s (.s (.s (.s (.s .z)))) | exact .s (.s (.s (.s (.s (.s .z))))) | exact .s (.s (.s (.s (.s (.s (.s .z)))))))
    (hv : l[off]? = some v := by rfl) (hd : Nat.blt d n = true := by rfl) (hw : Wanted ops ρ gd := by first | exact .none | exact .some ⟨_, rfl, rfl⟩) :
    LW P n ops Q (⟨some d, .load t x, T, p, af, gd⟩ :: rest) ρ w :=
  q_loadC h (by rw [cell_of_row _ _ _ _ _ _ (H.blk ht)]; simpa using hv) hx hd hw
/-- .. of a byte among bytes. -/
theorem q_loadB {t : Nat} {x : Operand} {g off : Nat} {l : List UInt8} {tt : TypeId} {fz : Nat × Nat} [CellOf P t] (H : St S w0 L w) (h : LW P n ops Q rest (upd ρ d (.int .u8 (by8 (l.getD off 0)))) w) (hx : ev ρ x = .pointer (some ⟨g, off, none⟩) := by rfl)
    (ht : Take L (.pt g (.cells (bs l).toArray tt fz)) M := by first | exact .z | exact .s .z | exact .s (.s .z) | exact .s (.s (.s .z)) | exact .s (.s (.s (.s .z))) | exact .s (.s (.s (.s (.s .z)))) | exact .s (.s (.s (.s (.s (.s .z))))) | exact .s (.s (.s (.s (.s (.s (.s .z)))))))
    (hl : off < l.length := by first | assumption | (simp only [List.length_set, List.length_replicate] <;> fail) | (simp only [List.length_set, List.length_replicate]; omega) | omega) (hd : Nat.blt d n = true := by rfl) (hw : Wanted ops ρ gd := by first | exact .none | exact .some ⟨_, rfl, rfl⟩) :
    LW P n ops Q (⟨some d, .load t x, T, p, af, gd⟩ :: rest) ρ w := q_load H h hx ht (bs_getD hl) hd hw
/-- A load of several cells. -/
theorem q_loadA {t k : Nat} {x : Operand} {g off : Nat} {l vs : List Value} {tt : TypeId} {fz : Nat × Nat} [ha : AggOf P t k] (H : St S w0 L w) (h : LW P n ops Q rest (upd ρ d (.agg vs.toArray)) w) (hx : ev ρ x = .pointer (some ⟨g, off, none⟩) := by rfl)
    (ht : Take L (.pt g (.cells l.toArray tt fz)) M := by first | exact .z | exact .s .z | exact .s (.s .z) | exact .s (.s (.s .z)) | exact .s (.s (.s (.s .z))) | exact .s (.s (.s (.s (.s .z)))) | exact .s (.s (.s (.s (.s (.s .z))))) | exact .s (.s (.s (.s (.s (.s (.s .z)))))))
    (hvs : (l.drop off).take k = vs) (hl : vs.length = k) (hd : Nat.blt d n = true := by rfl) (hw : Wanted ops ρ gd := by first | exact .none | exact .some ⟨_, rfl, rfl⟩) :
    LW P n ops Q (⟨some d, .load t x, T, p, af, gd⟩ :: rest) ρ w := by
  obtain ⟨ds, hu, hdw, hs⟩ := ha.out
  refine lw_value hw hd (v := .agg vs.toArray) (w' := w) ?_ h
  have := run_loadVar_sub (P := P) w g off tt t l.toArray fz ds (H.blk ht) hu (by cases ds <;> simp_all [TypeDesc.wide]) k hs vs (by simpa using hvs) hl
  simp [execOp, hx, Instr.loadAt, Instr.sureAddr, this]
/-- .. of a whole block. -/
theorem q_loadW {t k : Nat} {x : Operand} {g : Nat} {l : List Value} {tt : TypeId} {fz : Nat × Nat} [ha : AggOf P t k] (H : St S w0 L w) (h : LW P n ops Q rest (upd ρ d (.agg l.toArray)) w) (hx : ev ρ x = .pointer (some ⟨g, 0, none⟩) := by rfl)
    (ht : Take L (.pt g (.cells l.toArray tt fz)) M := by first | exact .z | exact .s .z | exact .s (.s .z) | exact .s (.s (.s .z)) | exact .s (.s (.s (.s .z))) | exact .s (.s (.s (.s (.s .z)))) | exact .s (.s (.s (.s (.s (.s .z))))) | exact .s (.s (.s (.s (.s (.s (.s .z)))))))
    (hl : l.length = k := by first | rfl | assumption | (simp [bs_length, *] <;> fail) | omega) (hd : Nat.blt d n = true := by rfl) (hw : Wanted ops ρ gd := by first | exact .none | exact .some ⟨_, rfl, rfl⟩) :
    LW P n ops Q (⟨some d, .load t x, T, p, af, gd⟩ :: rest) ρ w := q_loadA H h hx ht (by rw [List.drop_zero]; exact List.take_of_length_le (by omega)) hl hd hw

theorem run_newRow {e : Nat} {cs : Array Value} (w : World) : (newRow e cs).run P w = .ok ⟨w.heap.size, 0, none⟩ (w.alloc (.cells cs e)) := by simp [newRow]
theorem St.alloc (H : St S w0 L w) (o : Obj) : St S w0 (.pt w.heap.size o :: L) (w.alloc o) :=
  H.new (M := [.pt w.heap.size o]) (G := fun k => k = w.heap.size) ((Fr.refl _ _).alloc o) (Sep.one ⟨fun _ => Iff.rfl, heap_alloc_new w o⟩) fun k e => by omega
/-- A new variable. -/
theorem q_alloc {e : Nat} {z : List Value} [hz : ZeroOf P e z] (H : St S w0 L w) (h : ∀ g w', St S w0 (cells g z e :: L) w' → LW P n ops Q rest (upd ρ d (.pointer (some ⟨g, 0, none⟩))) w')
    (hd : Nat.blt d n = true := by rfl) (hw : Wanted ops ρ gd := by first | exact .none | exact .some ⟨_, rfl, rfl⟩) :
    LW P n ops Q (⟨some d, .alloc e, T, p, af, gd⟩ :: rest) ρ w := by
  refine lw_value hw hd (v := .pointer (some ⟨w.heap.size, 0, none⟩)) (w' := w.alloc (.cells z.toArray e)) ?_ (h _ _ (H.alloc _))
  have hz := hz.zero
  cases hq : P.info? e with
  | none => simp [hq] at hz
  | some i =>
    cases hq2 : i.zero with
    | none => simp [hq, hq2] at hz
    | some u =>
      have hc : u.cells = z.toArray := by simpa [hq, hq2] using hz
      simp [execOp, Instr.alloc, zeroValue, typeInfo, hq, hq2, newVar, newRow, hc]
/-- A variable that begins with a value. -/
theorem q_box {e : Nat} {x : Operand} {l : List Value} (H : St S w0 L w) (h : ∀ g w', St S w0 (cells g l e :: L) w' → LW P n ops Q rest (upd ρ d (.pointer (some ⟨g, 0, none⟩))) w')
    (hx : (ev ρ x).cells = l.toArray := by rfl) (hd : Nat.blt d n = true := by rfl) (hw : Wanted ops ρ gd := by first | exact .none | exact .some ⟨_, rfl, rfl⟩) :
    LW P n ops Q (⟨some d, .box e x, T, p, af, gd⟩ :: rest) ρ w :=
  lw_value hw hd (v := .pointer (some ⟨w.heap.size, 0, none⟩)) (w' := w.alloc (.cells l.toArray e)) (by simp [execOp, Instr.box, newVar, newRow, hx]) (h _ _ (H.alloc _))

theorem run_storeVar_at {t g off k : Nat} {w : World} {v : Value} {old cs : List Value} {tt : TypeId} (hs : (P.info? t).map (·.size) = some k) (hc : v.cells = cs.toArray) (hl : cs.length = k) (hg : w.heap[g]? = some (.cells old.toArray tt (0, 0))) (hf : off + k ≤ old.length)
    (h1 : ∀ u ∈ cs, u.oneCell' = true) : (storeVar t ⟨g, off, none⟩ v).run P w = .ok () (w.setRow g (old.take off ++ cs ++ old.drop (off + k)).toArray) := by
  have := run_storeCells_at P g off tt cs 0 old.toArray w hg (by simp; omega) h1
  simp only [Nat.add_zero] at this
  unfold storeVar
  rw [Sem.run_bind, run_sizeOf_of hs w]
  simp only [Result.andThen_ok, hc, List.size_toArray, hl, ne_eq, not_true_eq_false, if_false]
  rw [this, hl]
theorem St.setRow {g : Nat} {o : Array Value} {t : TypeId} (H : St S w0 (.pt g (.cells o t (0, 0)) :: L) w) (cs : Array Value) : St S w0 (.pt g (.cells cs t (0, 0)) :: L) (w.setRow g cs) :=
  H.store (setRow_heap _ _ _ _ _ _ (H.blk .z)) ((Fr.refl _ _).setRow g cs fun _ => rfl)
inductive SetL : List Value → Nat → Value → List Value → Prop
  | z {a v : Value} {l : List Value} : SetL (a :: l) 0 v (v :: l)
  | s {a v : Value} {l l' : List Value} {k : Nat} : SetL l k v l' → SetL (a :: l) (k + 1) v (a :: l')
theorem SetL.eq {l l' : List Value} {k : Nat} {v : Value} (h : SetL l k v l') : k < l.length ∧ l' = l.take k ++ [v] ++ l.drop (k + 1) := by
  induction h with
  | z => simp
  | s _ ih => obtain ⟨a, rfl⟩ := ih; simp; exact a
theorem SetL.of {l l' : List Value} {k : Nat} {v : Value} (h : k < l.length) (e : l.set k v = l') : SetL l k v l' := by
  subst e
  induction l generalizing k with
  | nil => simp at h
  | cons a l ih =>
    cases k with
    | zero => exact .z
    | succ k => exact .s (ih (by simpa using h))
/-- A store of one cell. -/
theorem q_store {t : Nat} {x y : Operand} {g off : Nat} {v : Value} {l l' : List Value} {tt : TypeId} [hs : CellOf P t] (H : St S w0 L w) (h : ∀ w', St S w0 (cells g l' tt :: M) w' → LW P n ops Q rest ρ w') (hx : ev ρ x = .pointer (some ⟨g, off, none⟩) := by rfl)
    (hy : ev ρ y = v := by conv => lhs; whnf)
    (ht : Take L (cells g l tt) M := by first | exact .z | exact .s .z | exact .s (.s .z) | exact .s (.s (.s .z)) | exact .s (.s (.s (.s .z))) | exact .s (.s (.s (.s (.s .z)))) | exact .s (.s (.s (.s (.s (.s .z))))) | exact .s (.s (.s (.s (.s (.s (.s .z)))))))
    (hl : SetL l off v l' := by repeat (first | exact SetL.z | apply SetL.s))
    (h1 : v.oneCell' = true := by rfl) (hc : v.cells = #[v] := by rfl) (hw : Wanted ops ρ gd := by first | exact .none | exact .some ⟨_, rfl, rfl⟩) :
    LW P n ops Q (⟨none, .store t x y, T, p, af, gd⟩ :: rest) ρ w := by
  obtain ⟨h2, h3⟩ := hl.eq
  have H' := H.take ht
  refine lw_skip hw rfl (w' := w.setRow g l'.toArray) ?_ (h _ (H'.setRow _))
  have := run_storeVar_at (P := P) (t := t) (off := off) (v := v) (cs := [v]) hs.size (by rw [hc]) rfl (H'.blk .z) (by omega) (by intro u hu; simp at hu; subst hu; exact h1)
  simp only [execOp, hx, hy, Instr.storeAt, Instr.sureAddr, Sem.run_bind, Sem.run_pure, Result.andThen_ok]
  rw [this, h3]; rfl
/-- .. of a byte among bytes. -/
theorem q_storeB {t : Nat} {x y : Operand} {g off : Nat} {b : UInt8} {l : List UInt8} {tt : TypeId} [hs : CellOf P t] (H : St S w0 L w) (h : ∀ w', St S w0 (cells g (bs (l.set off b)) tt :: M) w' → LW P n ops Q rest ρ w') (hx : ev ρ x = .pointer (some ⟨g, off, none⟩) := by rfl)
    (hy : ev ρ y = .int .u8 (by8 b) := by rfl)
    (ht : Take L (cells g (bs l) tt) M := by first | exact .z | exact .s .z | exact .s (.s .z) | exact .s (.s (.s .z)) | exact .s (.s (.s (.s .z))) | exact .s (.s (.s (.s (.s .z)))) | exact .s (.s (.s (.s (.s (.s .z))))) | exact .s (.s (.s (.s (.s (.s (.s .z)))))))
    (hl : off < l.length := by first | assumption | (simp only [List.length_set, List.length_replicate] <;> fail) | (simp only [List.length_set, List.length_replicate]; omega) | omega) (hw : Wanted ops ρ gd := by first | exact .none | exact .some ⟨_, rfl, rfl⟩) :
    LW P n ops Q (⟨none, .store t x y, T, p, af, gd⟩ :: rest) ρ w :=
  q_store H h hx hy ht (SetL.of (by simpa [bs_length] using hl) (by simp [bs, List.map_set])) rfl rfl hw
/-- .. of several. -/
theorem q_storeA {t k : Nat} {x y : Operand} {g off : Nat} {cs l l' : List Value} {tt : TypeId} [hs : AggOf P t k] (H : St S w0 L w) (h : ∀ w', St S w0 (cells g l' tt :: M) w' → LW P n ops Q rest ρ w') (hx : ev ρ x = .pointer (some ⟨g, off, none⟩) := by rfl)
    (hy : ev ρ y = .agg cs.toArray := by rfl)
    (ht : Take L (cells g l tt) M := by first | exact .z | exact .s .z | exact .s (.s .z) | exact .s (.s (.s .z)) | exact .s (.s (.s (.s .z))) | exact .s (.s (.s (.s (.s .z)))) | exact .s (.s (.s (.s (.s (.s .z))))) | exact .s (.s (.s (.s (.s (.s (.s .z)))))))
    (hl : l.take off ++ cs ++ l.drop (off + k) = l') (hk : cs.length = k) (hf : off + k ≤ l.length)
    (h1 : ∀ u ∈ cs, u.oneCell' = true) (hw : Wanted ops ρ gd := by first | exact .none | exact .some ⟨_, rfl, rfl⟩) :
    LW P n ops Q (⟨none, .store t x y, T, p, af, gd⟩ :: rest) ρ w := by
  have H' := H.take ht
  refine lw_skip hw rfl (w' := w.setRow g l'.toArray) ?_ (h _ (H'.setRow _))
  have := run_storeVar_at (P := P) (t := t) (off := off) (v := .agg cs.toArray) (cs := cs) hs.size rfl hk (H'.blk .z) hf h1
  simp only [execOp, hx, hy, Instr.storeAt, Instr.sureAddr, Sem.run_bind, Sem.run_pure, Result.andThen_ok]
  rw [this, hl]; rfl
/-- .. of a whole block. -/
theorem q_storeW {t k : Nat} {x y : Operand} {g : Nat} {cs l : List Value} {tt : TypeId} [hs : AggOf P t k] (H : St S w0 L w) (h : ∀ w', St S w0 (cells g cs tt :: M) w' → LW P n ops Q rest ρ w') (hx : ev ρ x = .pointer (some ⟨g, 0, none⟩) := by rfl)
    (hy : ev ρ y = .agg cs.toArray := by rfl)
    (ht : Take L (cells g l tt) M := by first | exact .z | exact .s .z | exact .s (.s .z) | exact .s (.s (.s .z)) | exact .s (.s (.s (.s .z))) | exact .s (.s (.s (.s (.s .z)))) | exact .s (.s (.s (.s (.s (.s .z))))) | exact .s (.s (.s (.s (.s (.s (.s .z)))))))
    (hk : cs.length = k := by first | rfl | assumption | (simp [bs_length, *] <;> fail) | omega) (hf : l.length = k := by first | rfl | assumption | (simp [bs_length, *] <;> fail) | omega)
    (h1 : ∀ u ∈ cs, u.oneCell' = true := by first | exact bs_one | simp [Value.oneCell']) (hw : Wanted ops ρ gd := by first | exact .none | exact .some ⟨_, rfl, rfl⟩) :
    LW P n ops Q (⟨none, .store t x y, T, p, af, gd⟩ :: rest) ρ w := q_storeA H h hx hy ht (by rw [List.take_zero, List.drop_of_length_le (by omega)]; simp) hk (by omega) h1 hw

/-- The place of a field. -/
theorem q_field {s i o ty k : Nat} {x : Operand} {g : Nat} [hf : FldAt P s i o ty k] (h : LW P n ops Q rest (upd ρ d (.pointer (some ⟨g, o, none⟩))) w) (hx : ev ρ x = .pointer (some ⟨g, 0, none⟩) := by rfl) (hd : Nat.blt d n = true := by rfl) (hw : Wanted ops ρ gd := by first | exact .none | exact .some ⟨_, rfl, rfl⟩) :
    LW P n ops Q (⟨some d, .fieldAddr s x i, T, p, af, gd⟩ :: rest) ρ w := by
  obtain ⟨fs, hu, f, h1, h2, h3, h4, h5⟩ := hf.out
  refine lw_value hw hd (w' := w) ?_ h
  subst h2 h3
  simp [execOp, hx, Instr.fieldAt, Instr.sureAddr, run_underlying hu, h1, fieldPlace, run_sizeOf_of h4, h5, addr_add]
theorem q_fieldO {s i o ty k : Nat} {x : Operand} {g off off' : Nat} [hf : FldAt P s i o ty k] (h : LW P n ops Q rest (upd ρ d (.pointer (some ⟨g, off', none⟩))) w) (hx : ev ρ x = .pointer (some ⟨g, off, none⟩) := by rfl) (ho : off + o = off' := by conv => lhs; first | simp only [Nat.zero_add, Nat.add_zero, Nat.reduceAdd] | skip) (hd : Nat.blt d n = true := by rfl) (hw : Wanted ops ρ gd := by first | exact .none | exact .some ⟨_, rfl, rfl⟩) :
    LW P n ops Q (⟨some d, .fieldAddr s x i, T, p, af, gd⟩ :: rest) ρ w := by
  obtain ⟨fs, hu, f, h1, h2, h3, h4, h5⟩ := hf.out
  refine lw_value hw hd (w' := w) ?_ h
  subst h2 h3 ho
  simp [execOp, hx, Instr.fieldAt, Instr.sureAddr, run_underlying hu, h1, fieldPlace, run_sizeOf_of h4, h5, addr_add]
/-- A part of a value. -/
theorem q_partC {s i o ty k : Nat} {x : Operand} {l : List Value} {v : Value} [hf : FldAt P s i o ty k] [CellOf P ty] (h : LW P n ops Q rest (upd ρ d v) w) (hx : ev ρ x = .agg l.toArray := by rfl) (hv : l[o]? = some v := by rfl) (hd : Nat.blt d n = true := by rfl) (hw : Wanted ops ρ gd := by first | exact .none | exact .some ⟨_, rfl, rfl⟩) :
    LW P n ops Q (⟨some d, .field s x i, T, p, af, gd⟩ :: rest) ρ w := by
  obtain ⟨fs, hu, f, h1, h2, h3, h4, h5⟩ := hf.out
  refine lw_value hw hd (w' := w) ?_ h
  subst h2 h3
  simp [execOp, hx, Instr.field, run_underlying hu, h1, part, asAgg, run_isAgg_f, hv]
theorem q_partA {s i o ty k : Nat} {x : Operand} {l vs : List Value} [hf : FldAt P s i o ty k] {k' : Nat} [AggOf P ty k'] (h : LW P n ops Q rest (upd ρ d (.agg vs.toArray)) w) (hv : (l.drop o).take k = vs) (hx : ev ρ x = .agg l.toArray := by rfl) (hd : Nat.blt d n = true := by rfl) (hw : Wanted ops ρ gd := by first | exact .none | exact .some ⟨_, rfl, rfl⟩) :
    LW P n ops Q (⟨some d, .field s x i, T, p, af, gd⟩ :: rest) ρ w := by
  obtain ⟨fs, hu, f, h1, h2, h3, h4, h5⟩ := hf.out
  refine lw_value hw hd (w' := w) ?_ h
  subst h2 h3 hv
  simp [execOp, hx, Instr.field, run_underlying hu, h1, part, asAgg, run_isAgg_t, run_sizeOf_of h4]
/-- The place of an element of a slice. -/
theorem q_idxS {t e k b : Nat} {z : List Value} {x y : Operand} {ik : IntKind} {i : Int} {g off len cap j off' : Nat} [hs : SlOf P t e z k b] (h : LW P n ops Q rest (upd ρ d (.pointer (some ⟨g, off', none⟩))) w) (hx : ev ρ x = .slice (some ⟨g, off, none⟩) len cap := by rfl) (hy : ev ρ y = .int ik i := by rfl) (hj : i.toNat = j := by conv => lhs; first | simp only [Int.toNat_natCast, Int.reduceToNat, Int.toNat_natCast_add_one] | skip) (h0 : 0 ≤ i := by omega) (hlt : j < len := by omega) (ho : off + j * k = off' := by conv => lhs; first | simp only [Nat.mul_one, Nat.zero_add, Nat.add_zero, Nat.reduceAdd, Nat.reduceMul] | skip)
    (hd : Nat.blt d n = true := by rfl) (hw : Wanted ops ρ gd := by first | exact .none | exact .some ⟨_, rfl, rfl⟩) :
    LW P n ops Q (⟨some d, .indexAddr t x y, T, p, af, gd⟩ :: rest) ρ w := by
  have hi := hs.info
  have hsz : (P.info? e).map (·.size) = some k := by
    cases hq : P.info? e with
    | none => simp [hq] at hi
    | some i => simp [hq] at hi; simp [hi]
  refine lw_value hw hd (w' := w) ?_ h
  subst ho
  obtain rfl : i = (j : Int) := by omega
  simp [execOp, hx, hy, Instr.indexAt, asIntOf, run_underlying hs.und, run_sizeOf_of hsz, addr_add, hlt]
/-- .. of an array. -/
theorem q_idxA {t e k m : Nat} {x y : Operand} {ik : IntKind} {i : Int} {g off j off' : Nat} [hs : ArrOf P t m e k] (h : LW P n ops Q rest (upd ρ d (.pointer (some ⟨g, off', none⟩))) w) (hx : ev ρ x = .pointer (some ⟨g, off, none⟩) := by rfl) (hy : ev ρ y = .int ik i := by rfl) (hj : i.toNat = j := by conv => lhs; first | simp only [Int.toNat_natCast, Int.reduceToNat, Int.toNat_natCast_add_one] | skip) (h0 : 0 ≤ i := by omega) (hlt : j < m := by omega) (ho : off + j * k = off' := by conv => lhs; first | simp only [Nat.mul_one, Nat.zero_add, Nat.add_zero, Nat.reduceAdd, Nat.reduceMul] | skip)
    (hd : Nat.blt d n = true := by rfl) (hw : Wanted ops ρ gd := by first | exact .none | exact .some ⟨_, rfl, rfl⟩) :
    LW P n ops Q (⟨some d, .indexAddr t x y, T, p, af, gd⟩ :: rest) ρ w := by
  refine lw_value hw hd (w' := w) ?_ h
  subst ho
  obtain rfl : i = (j : Int) := by omega
  simp [execOp, hx, hy, Instr.indexAt, Instr.sureAddr, asIntOf, run_underlying hs.und, run_sizeOf_of hs.size, addr_add, hlt]
end
end Go.Proofs.Ytbdkicmdidcdcaa
namespace Go.Proofs.Ytbdkicmdidcdcaa
open Go.RowKit

/-- A function that has a body. -/
def callable (P : Program) (f : FuncId) : Bool := match P.funcs[f]? with | some fn => !(fn.name == "runtime.NumGoroutine") && fn.body.isSome | none => false
theorem run_callable {P : Program} {f : FuncId} (h : callable P f = true) (args : Array Value) (w : World) : (callFunc f args).run P w = .ok (.enter f args) w := by
  unfold callable at h
  cases hq : P.funcs[f]? with
  | none => rw [hq] at h; cases h
  | some fn =>
    rw [hq] at h
    simp only [Bool.and_eq_true, Bool.not_eq_true'] at h
    obtain ⟨h1, h2⟩ := h
    have h3 : ¬ fn.body = none := by cases hb : fn.body <;> simp_all
    have h4 : ¬ fn.name = "runtime.NumGoroutine" := by simpa using h1
    unfold callFunc
    simp [hq, h4, h3]

/-- pre and M are L. -/
inductive TakeAll : List Res → List Res → List Res → Prop
  | nil {L : List Res} : TakeAll L [] L
  | cons {L L' M pre : List Res} {R : Res} : Take L R L' → TakeAll L' pre M → TakeAll L (R :: pre) M
theorem TakeAll.sep {L pre M : List Res} (h : TakeAll L pre M) : ∀ {F : Nat → Prop} {w : World}, Sep L F w → Sep (pre ++ M) F w := by
  induction h with
  | nil => exact fun h => h
  | cons t _ ih =>
    intro F w h
    obtain ⟨A, B, h1, h2, h3, h4⟩ := t.sep h
    exact ⟨A, B, h1, h2, h3, ih h4⟩
/-- The contract of a function: what is handed in, what comes of it. -/
def Tri (P : Program) (f : FuncId) (args : List Value) (pre : List Res) (w : World) (post : Value → List Res → Prop) : Prop :=
  ∀ F, Sep pre F w → Calls P f args.toArray w fun e w' => ∃ v L, e = .returned v ∧ post v L ∧ St F w L w'

/-- Slots that hold values. -/
def upds : List (Nat × Value) → Env → Env
  | [], ρ => ρ
  | (d, v) :: l, ρ => upd (upds l ρ) d v
def Has (ρ : Env) : List (Nat × Value) → Prop
  | [] => True
  | (d, v) :: l => ρ d = v ∧ Has ρ l
theorem upd_self {ρ : Env} {d : Nat} {v : Value} (h : ρ d = v) : upd ρ d v = ρ := by
  funext t
  unfold upd
  cases hb : Nat.beq t d with
  | false => rfl
  | true => rw [Nat.eq_of_beq_eq_true hb, h]; rfl
theorem Has.eq : ∀ {l : List (Nat × Value)} {ρ : Env}, Has ρ l → upds l ρ = ρ
  | [], _, _ => rfl
  | (d, v) :: l, ρ, h => by
    show upd (upds l ρ) d v = ρ
    rw [Has.eq h.2]
    exact upd_self h.1

def RND (P : Program) (n : Nat) (c : Code) (Q : Post) : Nat → Env → World → Prop
  | 0, _, _ => False
  | k + 1, ρ, w => CW P n c (Then (RND P n c Q k) Q) ρ w
section
variable {P : Program} {n : Nat} {Q : Post} {ρ : Env} {w : World} {ops : Array Oper} {rest : List Oper} {d : Nat} {T : TypeId} {p : String} {af : Array Edge} {gd : Option (Nat × Bool)}
variable {S : Nat → Prop} {w0 : World} {L M : List Res}

theorem run_call {f : FuncId} {xs : Array Operand} {tys : Array TypeId} {args : List Value} {dst : Option Nat} (hf : callable P f = true) (ha : xs.toList.map (ev ρ) = args) (w : World) :
    (execOp (ev ρ) ⟨dst, .call { callee := .value (.func f), args := xs, argTypes := tys }, T, p, af, gd⟩).run P w = .ok (.enter f args.toArray) w := by
  have : execOp (ev ρ) ⟨dst, .call { callee := .value (.func f), args := xs, argTypes := tys }, T, p, af, gd⟩ = callFunc f (#[] ++ xs.map (ev ρ) ++ #[]) := rfl
  rw [this, run_callable hf]
  congr 2
  subst ha
  apply Array.ext'
  simp
/-- A call. -/
theorem q_call {f : FuncId} {xs : Array Operand} {tys : Array TypeId} {args : Array Value} {dst : Option Nat} {R : Ending → World → Prop} (hc : Calls P f args w R) (h : ∀ e w', R e w' → ∃ v, e = .returned v ∧ LW P n ops Q rest (pu ρ dst v) w')
    (ha : xs.toList.map (ev ρ) = args.toList := by rfl) (hf : callable P f = true := by kernel_rfl) (hd : within n dst = true := by rfl) (hw : Wanted ops ρ gd := by first | exact .none | exact .some ⟨_, rfl, rfl⟩) :
    LW P n ops Q (⟨dst, .call { callee := .value (.func f), args := xs, argTypes := tys }, T, p, af, gd⟩ :: rest) ρ w :=
  lw_enter hw hd (run_call hf ha w) (by simpa using hc) h
theorem q_tri {f : FuncId} {xs : Array Operand} {tys : Array TypeId} {args : List Value} {pre : List Res} {dst : Option Nat} {post : Value → List Res → Prop} (H : St S w0 L w) (hc : Tri P f args pre w post)
    (h : ∀ v L' w', post v L' → St S w0 (L' ++ M) w' → LW P n ops Q rest (pu ρ dst v) w')
    (t : TakeAll L pre M := by repeat (first | exact TakeAll.nil | apply TakeAll.cons | exact Take.z | apply Take.s))
    (ha : xs.toList.map (ev ρ) = args := by rfl) (hf : callable P f = true := by kernel_rfl) (hd : within n dst = true := by rfl) (hw : Wanted ops ρ gd := by first | exact .none | exact .some ⟨_, rfl, rfl⟩) :
    LW P n ops Q (⟨dst, .call { callee := .value (.func f), args := xs, argTypes := tys }, T, p, af, gd⟩ :: rest) ρ w := by
  obtain ⟨F, h1, h2, h3⟩ := H
  obtain ⟨A, B, a1, a2, a3, a4⟩ := (t.sep h1).split
  refine lw_enter hw hd (run_call hf ha w) (hc A a3) ?_
  rintro _ w' ⟨v, L', rfl, hp, G, g1, g2, g3⟩
  refine ⟨v, rfl, h v L' w' hp ⟨_, g1.append (a4.keep fun k hk => g2.block k (a4.lt hk) fun ha => a2 k ha hk) ?_, h2.trans g2 ?_, ?_⟩⟩
  · intro k hg hb
    rcases g3 k hg with ha | hle
    · exact a2 k ha hb
    · have := a4.lt hb; omega
  · intro k hk ha
    exact (h3 k ((a1 k).2 (.inl ha))).resolve_right (by omega)
  · rintro k (hg | hb)
    · rcases g3 k hg with ha | hle
      · exact h3 k ((a1 k).2 (.inl ha))
      · exact .inr (Nat.le_trans h2.size hle)
    · exact h3 k ((a1 k).2 (.inr hb))
theorem Tri.of {f : FuncId} {args : List Value} {pre : List Res} {post : Value → List Res → Prop} (h : ∀ F, St F w pre w → Calls P f args.toArray w fun e w' => ∃ v L, e = .returned v ∧ post v L ∧ St F w L w') : Tri P f args pre w post := fun F hF => h F (St.start hF)

/-- A loop: x is what a round begins with. -/
theorem q_loop {X : Type} {c : Code} (slots : X → List (Nat × Value)) (I : X → World → Prop) (m : X → Nat) (x0 : X) (hs : Has ρ (slots x0)) (h0 : I x0 w)
    (round : ∀ x ρ w, I x w → CW P n c (Then (fun ρ' w' => ∃ x', Has ρ' (slots x') ∧ I x' w' ∧ m x' < m x) Q) (upds (slots x) ρ) w) : CW P n (.loop c) Q ρ w := by
  refine ⟨fun hf => ?_⟩
  let R : Nat → Act → World → Prop := fun k a w => ∃ x ρ, m x = k ∧ Fits n ρ ∧ a = act n ρ ∧ Has ρ (slots x) ∧ I x w
  let J : Act → World → Prop := fun a w => ∃ k, R k a w
  let μ : Act → World → Nat := fun a w => (Classical.epsilon fun k => R k a w ∧ ∀ j, R j a w → k ≤ j)
  have least : ∀ a w, J a w → R (μ a w) a w ∧ ∀ j, R j a w → μ a w ≤ j := by
    intro a w ⟨k, hk⟩
    refine Classical.epsilon_spec (p := fun k => R k a w ∧ ∀ j, R j a w → k ≤ j) ?_
    induction k using Nat.strongRecOn with
    | _ k ih =>
      by_cases h : ∃ j, j < k ∧ R j a w
      · obtain ⟨j, hj, hr⟩ := h
        exact ih j hj hr
      · exact ⟨k, hk, fun j hj => Nat.le_of_not_lt fun hlt => h ⟨j, hlt, hj⟩⟩
  refine wp_loop J μ ⟨_, x0, ρ, rfl, hf, rfl, hs, h0⟩ fun a w hJ => ?_
  obtain ⟨x, ρ', hm, hf', rfl, hs', hI⟩ := (least a w hJ).1
  have := round x ρ' w hI
  rw [hs'.eq] at this
  refine wp_mono (this.out hf') fun e a' w' ⟨ρ'', hf'', ha, hq⟩ => ?_
  subst ha
  cases e with
  | normal =>
    obtain ⟨x', h1, h2, h3⟩ := hq
    have hR : R (m x') (act n ρ'') w' := ⟨x', ρ'', rfl, hf'', rfl, h1, h2⟩
    refine ⟨⟨_, hR⟩, ?_⟩
    have := (least _ _ ⟨_, hR⟩).2 _ hR
    omega
  | _ => exact ⟨ρ'', hf'', rfl, hq⟩
/-- A piece of code with a word said at its end. -/
theorem q_cut {x : Code} {Q' : Post} (h : CW P n x Q' ρ w) (hq : ∀ e ρ w, Q' e ρ w → Q e ρ w) : CW P n x Q ρ w := ⟨fun hf =>
  wp_mono (h.out hf) fun _ _ _ ⟨ρ', hf', ha, hq'⟩ => ⟨ρ', hf', ha, hq _ _ _ hq'⟩⟩
/-- A loop of few rounds. -/
theorem q_rounds {c : Code} (k : Nat) (h : RND P n c Q k ρ w) : CW P n (.loop c) Q ρ w := by
  refine ⟨fun hf => ?_⟩
  refine wp_loop_rounds k ?_
  have : ∀ k ρ w, Fits n ρ → RND P n c Q k ρ w → Code.rounds P c (lift n Q) k (act n ρ) w := by
    intro k
    induction k with
    | zero => intro _ _ _ h; exact h
    | succ k ih =>
      intro ρ w hf h
      rw [rounds_succ]
      exact wp_mono (CW.out h hf) fun e a w ⟨ρ', hf', ha, hq⟩ => by
        subst ha
        cases e with
        | normal => exact ih ρ' w hf' hq
        | _ => exact ⟨ρ', hf', rfl, hq⟩
  exact this k ρ w hf h
theorem q_rnd {c : Code} {k : Nat} (h : CW P n c (Then (RND P n c Q k) Q) ρ w) : RND P n c Q (k + 1) ρ w := h

/-- How long a slice is. -/
theorem q_len {x : Operand} {ty e k b : Nat} {z : List Value} {a : Option Addr} {len cap : Nat} {dst : Option Nat} [hs : SlOf P ty e z k b] (h : LW P n ops Q rest (pu ρ dst (.int .i64 len)) w) (hx : ev ρ x = .slice a len cap := by rfl) (hd : within n dst = true := by rfl) (hw : Wanted ops ρ gd := by first | exact .none | exact .some ⟨_, rfl, rfl⟩) :
    LW P n ops Q (⟨dst, .call { callee := .builtin .len, args := #[x], argTypes := #[ty] }, T, p, af, gd⟩ :: rest) ρ w :=
  lw_value hw hd (w' := w) (by simp [execOp, resolve, invoke, builtin, hx, Builtin.len_, run_underlying hs.und, goInt]) h
theorem q_lenStr {x : Operand} {ty : Nat} {s : ByteArray} {dst : Option Nat} [hs : StrOf P ty] (h : LW P n ops Q rest (pu ρ dst (.int .i64 s.size)) w) (hx : ev ρ x = .string s := by rfl) (hd : within n dst = true := by rfl) (hw : Wanted ops ρ gd := by first | exact .none | exact .some ⟨_, rfl, rfl⟩) :
    LW P n ops Q (⟨dst, .call { callee := .builtin .len, args := #[x], argTypes := #[ty] }, T, p, af, gd⟩ :: rest) ρ w :=
  lw_value hw hd (w' := w) (by simp [execOp, resolve, invoke, builtin, hx, Builtin.len_, run_underlying hs.und, goInt]) h
/-- A whole array as a slice. -/
theorem q_sliceArr {ty m e k : Nat} {x : Operand} {g off : Nat} [hs : ArrOf P ty m e k] (h : LW P n ops Q rest (upd ρ d (.slice (some ⟨g, off, none⟩) m m)) w) (hx : ev ρ x = .pointer (some ⟨g, off, none⟩) := by rfl) (hd : Nat.blt d n = true := by rfl) (hw : Wanted ops ρ gd := by first | exact .none | exact .some ⟨_, rfl, rfl⟩) :
    LW P n ops Q (⟨some d, .slice ty x none none none, T, p, af, gd⟩ :: rest) ρ w :=
  lw_value hw hd (w' := w) (by simp [execOp, hx, Instr.sliceAt, Instr.sureAddr, run_underlying hs.und, run_sizeOf_of hs.size, Instr.sliceBounds, addr_add]) h
/-- A slice made of parts. -/
theorem q_buildSlice {ty e k b len : Nat} {z : List Value} {parts : Array (Nat × Operand)} {l : List Value} [hs : SlOf P ty e z k b] (H : St S w0 L w) (h : ∀ g w', St S w0 (cells g l e :: L) w' → LW P n ops Q rest (upd ρ d (.slice (some ⟨g, 0, none⟩) len len)) w')
    (hl : Instr.fill (fun i => some (i * k, k)) ((Array.range (len * k)).map (z.toArray[· % z.toArray.size]!)) (parts.toList.map fun (i, x) => (i, ev ρ x)) = some l.toArray) (h0 : 0 < len * k := by decide) (h24 : len * k ≤ 16777216 := by decide) (hd : Nat.blt d n = true := by rfl) (hw : Wanted ops ρ gd := by first | exact .none | exact .some ⟨_, rfl, rfl⟩) :
    LW P n ops Q (⟨some d, .buildSlice ty len parts, T, p, af, gd⟩ :: rest) ρ w := by
  refine lw_value hw hd (v := .slice (some ⟨w.heap.size, 0, none⟩) len len) (w' := w.alloc (.cells l.toArray e)) ?_ (h _ _ (H.alloc _))
  have hi := hs.info
  cases hq : P.info? e with
  | none => simp [hq] at hi
  | some i =>
    simp only [hq, Option.map_some, Option.some.injEq, Prod.mk.injEq] at hi
    obtain ⟨hz, hk, _⟩ := hi
    cases hq2 : i.zero with
    | none => simp [hq2] at hz
    | some u =>
      have hc : u.cells = z.toArray := by simpa [hq2] using hz
      have hp : (parts.map fun (x : Nat × Operand) => (x.1, ev ρ x.2)).toList = parts.toList.map fun (i, x) => (i, ev ρ x) := by simp
      have h1 : ¬ len * k > 2 ^ 24 := by omega
      have h2 : ¬ len * k = 0 := by omega
      have hs1 : (sizeOf e).run P w = .ok k w := by simp [sizeOf, typeInfo, hq, hk]
      have hz1 : (zeroValue e).run P w = .ok u w := by simp [zeroValue, typeInfo, hq, hq2]
      simp only [execOp, Instr.buildSlice, Sem.run_bind, run_underlying hs.und, Result.andThen_ok, Sem.run_pure, h1, h2, if_false, hs1, hz1, hc, hp, hl, run_newRow]
end
end Go.Proofs.Ytbdkicmdidcdcaa
namespace Go.Proofs.Ytbdkicmdidcdcaa
open Go.RowKit

structure RW (P : Program) (n : Nat) (ops : Array Oper) (Q : Post) (S : World → Prop) (fuel : Nat) (listed : Array Bool) (ρ : Env) (w : World) : Prop where
  out : Fits n ρ → S w → wpAnyH P .any ops (lift n Q) S fuel listed (act n ρ) w
def OpPost (P : Program) (n : Nat) (ops : Array Oper) (Q : Post) (S : World → Prop) (fuel : Nat) (listed : Array Bool) : Post
  | .normal, ρ, w => S w ∧ RW P n ops Q S fuel listed ρ w
  | e, ρ, w => Q e ρ w

section
variable {P : Program} {n : Nat} {Q : Post} {ρ : Env} {w : World} {ops : Array Oper} {S : World → Prop} {fuel : Nat} {listed : Array Bool} {o : Oper}
theorem r_start {id : Nat} (S : World → Prop) (m : Nat) (hm : ops.size = m) (hS : S w.drew) (h : RW P n ops Q S m (Array.replicate m false) ρ w.drew) (hf : P.follows .mixedOrders = true := by kernel_rfl) : CW P n (.region id ops true) Q ρ w := ⟨fun hfit =>
  wp_region_held (S := S) hf (by rw [hm]; exact h.out hfit hS)⟩
theorem r_take (i : Nat) {v : Value} {d : Nat} (hi : ops[i]? = some o) (ho : o.dst = some d) (hr : ∀ w, S w → (execOp (ev ρ) o).run P w = .ok (.value v) w) (h : RW P n ops Q S fuel (listed.setIfInBounds i true) (upd ρ d v) w)
    (hd : Nat.blt d n = true := by rfl) (hw : Wanted ops ρ o.guard := by first | exact .none | exact .some ⟨_, rfl, rfl⟩) (hQ : ∀ c ρ w, Q (.panic c) ρ w → False := by intro _ _ _ h; exact h)
    (hs : Region.noSelect ops = true := by kernel_rfl) (hfr : Region.free .any ops listed i = true := by kernel_rfl) (hrd : (Region.ready .any ops listed).contains i = true := by kernel_rfl) : RW P n ops Q S (fuel + 1) listed ρ w := ⟨fun hf hS =>
  wpAnyH_take (v := v) hi hs hfr hrd (fun c _ w ⟨ρ', _, _, hq⟩ => (hQ c ρ' w hq).elim) (.inl ⟨by
      unfold Region.wanted
      rcases want_spec hw with hg | ⟨j, b, hg, hy⟩
      · rw [hg]
      · rw [hg]; simp only; rw [yielded_act hy hf]; simp, fun w hSw => by rw [act_eval hf]; exact hr w hSw⟩) hS (by
    rw [act_put, ho]
    exact h.out (hf.put (d := some d) hd v) hS)⟩
theorem r_takeOff (i : Nat) {j : Nat} {b b' : Bool} (hi : ops[i]? = some o) (hg : o.guard = some (j, b)) (h : RW P n ops Q S fuel (listed.setIfInBounds i true) (pu ρ o.dst undef) w) (hy : Yld ops ρ j b' := by exact ⟨_, rfl, rfl⟩) (hb : (b' == b) = false := by rfl)
    (hd : within n o.dst = true := by rfl) (hQ : ∀ c ρ w, Q (.panic c) ρ w → False := by intro _ _ _ h; exact h)
    (hs : Region.noSelect ops = true := by kernel_rfl) (hfr : Region.free .any ops listed i = true := by kernel_rfl) (hrd : (Region.ready .any ops listed).contains i = true := by kernel_rfl) : RW P n ops Q S (fuel + 1) listed ρ w := ⟨fun hf hS =>
  wpAnyH_take (v := undef) hi hs hfr hrd (fun c _ w ⟨ρ', _, _, hq⟩ => (hQ c ρ' w hq).elim) (.inr ⟨by
      unfold Region.wanted
      rw [hg]; simp only
      rw [yielded_act hy hf]
      cases b <;> cases b' <;> simp_all, rfl⟩) hS (by
    rw [act_put]
    exact h.out (hf.put hd undef) hS)⟩
theorem wpOp_of_LW {i : Nat} {K : Post} (hi : ops[i]? = some o) (hf : Fits n ρ) (hK : ∀ e, e ≠ .normal → K e = Q e) (h : LW P n ops K [o] ρ w) : wpOp P ops (lift n Q) i (fun a' w' => ∃ ρ', Fits n ρ' ∧ a' = act n ρ' ∧ K .normal ρ' w') (act n ρ) w := by
  have h := h.out hf
  have hl : ∀ e, e ≠ .normal → ∀ a w, lift n K e a w → lift n Q e a w := fun e he a w ⟨ρ', h1, h2, h3⟩ => ⟨ρ', h1, h2, by rw [← hK e he]; exact h3⟩
  unfold wpOp
  simp only [hi]
  unfold wpList at h
  split
  · rename_i hw
    rw [if_pos hw] at h
    rcases h with h | ⟨h1, a, w', h2⟩
    · refine .inl ?_
      unfold Oper.wp at *
      generalize (execOp (act n ρ).eval o).run P w = r at *
      cases r with
      | ok nx w' =>
        cases nx <;> simp only [Oper.upon] at h ⊢
        case value v => exact h
        case skip => exact h
        case defer d => exact h
        case enter f args =>
          refine Calls.mono h fun e w'' he => ?_
          cases e with
          | returned u => exact he
          | panicked c => exact hl _ (by simp) _ _ he
          | outgrown => obtain ⟨a, w', h2⟩ := he; exact ⟨a, w', hl _ (by simp) _ _ h2⟩
        case row row args => exact h
      | halt x w' =>
        cases x <;> simp only [Oper.upon] at h ⊢
        case panic u => exact hl _ (by simp) _ _ h
    · exact .inr ⟨h1, a, w', hl _ (by simp) _ _ h2⟩
  · rename_i hw
    rw [if_neg hw] at h
    exact h
theorem r_one {i : Nat} (hi : ops[i]? = some o) (h : LW P n ops (OpPost P n ops Q S fuel (listed.setIfInBounds i true)) [o] ρ w) (hf : Fits n ρ) : wpOp P ops (lift n Q) i (fun a' w' => S w' ∧ wpAnyH P .any ops (lift n Q) S fuel (listed.setIfInBounds i true) a' w') (act n ρ) w :=
  wpOp_mono (fun a w ⟨ρ', h1, h2, h3, h4⟩ => by subst h2; exact ⟨h3, h4.out h1 h3⟩) (wpOp_of_LW hi hf (fun e he => by cases e <;> first | rfl | exact (he rfl).elim) h)
/-- The one that comes up. -/
theorem r_op (i : Nat) (hi : ops[i]? = some o) (h : LW P n ops (OpPost P n ops Q S fuel (listed.setIfInBounds i true)) [o] ρ w) (hrd : Region.ready .any ops listed = [i] := by kernel_rfl) : RW P n ops Q S (fuel + 1) listed ρ w := ⟨fun hf _ =>
  wpAnyH_all hrd (by simp) fun j hj => by simp at hj; subst hj; exact r_one hi h hf⟩
/-- One of two. -/
theorem r_two (i j : Nat) {o' : Oper} (hi : ops[i]? = some o) (hj : ops[j]? = some o') (h1 : LW P n ops (OpPost P n ops Q S fuel (listed.setIfInBounds i true)) [o] ρ w) (h2 : LW P n ops (OpPost P n ops Q S fuel (listed.setIfInBounds j true)) [o'] ρ w)
    (hrd : Region.ready .any ops listed = [i, j] := by kernel_rfl) : RW P n ops Q S (fuel + 1) listed ρ w := ⟨fun hf _ =>
  wpAnyH_all hrd (by simp) fun k hk => by
    simp at hk
    rcases hk with rfl | rfl
    · exact r_one hi h1 hf
    · exact r_one hj h2 hf⟩
theorem r_three (i j k : Nat) {o' o'' : Oper} (hi : ops[i]? = some o) (hj : ops[j]? = some o') (hk : ops[k]? = some o'') (h1 : LW P n ops (OpPost P n ops Q S fuel (listed.setIfInBounds i true)) [o] ρ w) (h2 : LW P n ops (OpPost P n ops Q S fuel (listed.setIfInBounds j true)) [o'] ρ w)
    (h3 : LW P n ops (OpPost P n ops Q S fuel (listed.setIfInBounds k true)) [o''] ρ w) (hrd : Region.ready .any ops listed = [i, j, k] := by kernel_rfl) : RW P n ops Q S (fuel + 1) listed ρ w := ⟨fun hf _ =>
  wpAnyH_all hrd (by simp) fun m hm => by
    simp at hm
    rcases hm with rfl | rfl | rfl
    · exact r_one hi h1 hf
    · exact r_one hj h2 hf
    · exact r_one hk h3 hf⟩
theorem r_done (h : Q .normal ρ w) (hrd : Region.ready .any ops listed = [] := by kernel_rfl) : RW P n ops Q S fuel listed ρ w := ⟨fun hf _ => wpAnyH_done hrd ⟨ρ, hf, rfl, h⟩ fuel⟩
/-- Behind an operation. -/
theorem r_next (h1 : S w) (h2 : RW P n ops Q S fuel listed ρ w) : OpPost P n ops Q S fuel listed .normal ρ w := ⟨h1, h2⟩
end
end Go.Proofs.Ytbdkicmdidcdcaa
