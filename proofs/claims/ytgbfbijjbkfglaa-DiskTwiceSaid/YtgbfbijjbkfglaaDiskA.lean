/-
  A disk in memory: its block, its map, its files; what frames leave of it.
-/
import Derived.Test.YtgbfbijjbkfglaaLibE
import Derived.Test.YtgbfbijjbkfglaaProg
import Derived.Maps.OwnSet
import Derived.WalkSpells
import Derived.Lib.Hide
namespace Go.Proofs.Ytgbfbijjbkfglaa
open Go.RowKit Go.Maps

theorem Try.info5 : (Try.prog.info? 5).map (fun i => (i.zero, i.size, i.bytes)) = some (some (.int .u8 0), 1, 1) := by kernel_rfl

/-- Bytes that are read, wherever they lie: cell by cell. -/
def RA (w : World) (v : Value) (l : List UInt8) : Prop := (v = .slice none 0 0 ∧ l = []) ∨
  ∃ a cap, v = .slice (some a) l.length cap ∧ l.length ≤ cap ∧ cap ≤ maxLen ∧ ∀ j, j < l.length → w.cell? (a.add j) = some (.int .u8 (by8 (l.getD j 0)))
section
variable {w w' : World} {v : Value} {l : List UInt8}
theorem RB.ra (h : RB w v l) : RA w v l := by
  rcases Rd.shape h with ⟨rfl, hl, _⟩ | ⟨g, off, cap, rfl, h1, h2, _⟩
  · exact .inl ⟨rfl, List.eq_nil_of_length_eq_zero hl⟩
  · exact .inr ⟨_, cap, rfl, h1, h2, fun j hj => by rw [addr_add]; exact Rd.cellAt h j _ (by rw [bs_get]; simp [hj])⟩
theorem RA.fr {S : Nat → Prop} (h : RA w v l) (hf : Fr S w w') (hn : ∀ k, v.ownBlock = some k → l ≠ [] → ¬ S k) : RA w' v l := by
  rcases h with h | ⟨a, cap, rfl, h1, h2, h3⟩
  · exact .inl h
  · refine .inr ⟨a, cap, rfl, h1, h2, fun j hj => ?_⟩
    have hb : (a.add j).block = a.block := by unfold Addr.add; split <;> rfl
    have hc := h3 j hj
    rw [hf.cell (World.block_lt_of_cell? _ _ hc) (by rw [hb]; exact hn _ rfl (fun e => by rw [e] at hj; simp at hj))]
    exact hc
theorem RA.no (h : RA w v l) (hf : No w w') : RA w' v l := h.fr hf fun _ _ _ => id
theorem RA.alloc (h : RA w v l) (o : Obj) : RA (w.alloc o) v l := h.no ((Fr.refl _ _).alloc o)
theorem RA.src {P : Program} {tx e' : TypeId} (hk : P.underlying tx = some (.slice e')) (h : RA w v l) : Src P 1 tx v l.length (bs l) w := by
  rcases h with ⟨rfl, rfl⟩ | ⟨a, cap, rfl, h1, h2, h3⟩
  · exact Src.ofNil w hk 0
  · exact Src.ofSlice w hk a l.length cap (bs l) (by simp [bs_length]) (fun j u hu => by
      rw [bs_get] at hu
      by_cases hj : j < l.length
      · rw [h3 j hj]; simp [hj] at hu; rw [← hu]; simp [hj]
      · simp [List.getElem?_eq_none (Nat.le_of_not_lt hj)] at hu) bs_one
theorem wpList_lenA {P : Program} {ops : Array Oper} {rest : List Oper} {o : Oper} {a : Act} {Q : Exit → Act → World → Prop} (hgd : o.guard = none) (x : Operand) (ty te : TypeId) (ho : o.op = .call { callee := .builtin .len, args := #[x], argTypes := #[ty] })
    (hu : P.underlying ty = some (.slice te)) (v : Value) (l : List UInt8) (hr : RA w v l) (hx : a.eval x = v)
    (h : wpList P ops Q rest (a.put o.dst (.int .i64 l.length)) w) : wpList P ops Q (o :: rest) a w := by
  refine wpList_plain hgd fun K hK => ?_
  unfold Oper.wp execOp
  rcases hr with ⟨rfl, rfl⟩ | ⟨a', cap, rfl, _⟩
  all_goals
    simp only [ho, resolve, invoke, builtin, Sem.run_bind, Sem.run_pure, Result.andThen_ok, List.map_toArray, List.map_cons, List.map_nil, hx]
    simp [Builtin.len_, run_underlying hu, goInt]
    exact hK _ _ h
end

/-- A file: its bytes, how many last, whether it is there for good. -/
structure Fl where
  b : List UInt8
  lasts : Nat
  there : Bool

/-- How a pointer to a whole block reads. -/
def ptrElem (v : Value) : Option (DataW Nat × List MemPlace) :=
  match v with
  | .pointer none => some (.nil, [])
  | .pointer (some ⟨b, 0, none⟩) => some (.lit (.int .i64 b), [])
  | _ => none
theorem ptrElem_inv {v : Value} {d : DataW Nat} {ps : List MemPlace} (h : ptrElem v = some (d, ps)) : (v = .pointer none ∧ d = .nil) ∨ ∃ b : Nat, v = .pointer (some ⟨b, 0, none⟩) ∧ d = .lit (.int .i64 b) := by
  unfold ptrElem at h
  split at h
  · simp at h; exact .inl ⟨rfl, h.1.symm⟩
  · simp at h; exact .inr ⟨_, rfl, h.1.symm⟩
  · cases h

/-- What a block is to a disk. -/
inductive Role where
  | no | hdr | mp
  | fil (nm : List UInt8)
  | byt (nm : List UInt8)

def FileOk (w : World) (ρ : Nat → Role) (D : DataW Nat) (nm : List UInt8) : Option Fl → Prop
  | none => Maps.has D (.string nm) = false
  | some f => ∃ (b : Nat) (v : Value), (∀ z, D.atKey (.string nm) z = .lit (.int .i64 b)) ∧ ρ b = .fil nm ∧ w.heap[b]? = some (.cells #[v, .int .i64 f.lasts, .bool f.there] 61 (0, 0)) ∧
      OB 0 w v f.b ∧ (∀ k, v.ownBlock = some k → ρ k = .byt nm) ∧ f.lasts ≤ f.b.length ∧ f.b.length ≤ 1048576

structure DKs (w : World) (ρ : Nat → Role) (db mb : Nat) (n : Nat) (D : DataW Nat) (M : List UInt8 → Option Fl) (c q : Nat) : Prop where
  hdr : ρ db = .hdr
  mp : ρ mb = .mp
  cell : w.heap[db]? = some (.cells #[.map (some mb), .int .i64 c] 57 (0, 0))
  own : w.ownsMap Try.prog 9 ptrElem mb n D
  fit : n ≤ c + q
  files : ∀ nm, FileOk w ρ D nm (M nm)
  lt : ∀ k, ρ k ≠ .no → k < w.heap.size

/-- d is a disk: its files are M, c changing calls were made; its blocks are those that ρ names. -/
def DK (w : World) (ρ : Nat → Role) (d : Value) (M : List UInt8 → Option Fl) (c q : Nat) : Prop :=
  ∃ db mb n D, d = .pointer (some ⟨db, 0, none⟩) ∧ DKs w ρ db mb n D M c q

section
variable {w w' : World} {ρ : Nat → Role} {db mb n : Nat} {D : DataW Nat} {M : List UInt8 → Option Fl} {c q : Nat} {d : Value}

theorem FileOk.keep {nm : List UInt8} {o : Option Fl} (h : FileOk w ρ D nm o) (hk : ∀ k, ρ k = .fil nm ∨ ρ k = .byt nm → w'.heap[k]? = w.heap[k]?) : FileOk w' ρ D nm o := by
  cases o with
  | none => exact h
  | some f =>
    obtain ⟨b, v, h1, h2, h3, h4, h5, h6⟩ := h
    exact ⟨b, v, h1, h2, (hk b (.inl h2)).trans h3, h4.keep fun k e => hk k (.inr (h5 k e)), h5, h6⟩

theorem ownsMap_keep {P : Program} {k : TypeId} {R : Value → Option (DataW Nat × List MemPlace)} (h : w.ownsMap P k R mb n D) (he : w'.heap[mb]? = w.heap[mb]?) : w'.ownsMap P k R mb n D := by
  obtain ⟨es, clock, hb, r⟩ := h
  exact ⟨es, clock, he.trans hb, r⟩

theorem DKs.keep (h : DKs w ρ db mb n D M c q) (hs : w.heap.size ≤ w'.heap.size) (hk : ∀ k, ρ k ≠ .no → w'.heap[k]? = w.heap[k]?) : DKs w' ρ db mb n D M c q :=
  ⟨h.hdr, h.mp, (hk db (by rw [h.hdr]; simp)).trans h.cell, ownsMap_keep h.own (hk mb (by rw [h.mp]; simp)), h.fit,
   fun nm => (h.files nm).keep fun k e => hk k (by rcases e with e | e <;> rw [e] <;> simp), fun k e => Nat.lt_of_lt_of_le (h.lt k e) hs⟩
theorem DK.keep (h : DK w ρ d M c q) (hs : w.heap.size ≤ w'.heap.size) (hk : ∀ k, ρ k ≠ .no → w'.heap[k]? = w.heap[k]?) : DK w' ρ d M c q := by
  obtain ⟨db, mb, n, D, rfl, h⟩ := h
  exact ⟨db, mb, n, D, rfl, h.keep hs hk⟩
theorem DK.lt (h : DK w ρ d M c q) : ∀ k, ρ k ≠ .no → k < w.heap.size := by
  obtain ⟨db, mb, n, D, rfl, h⟩ := h
  exact h.lt
theorem DK.fr {S : Nat → Prop} (h : DK w ρ d M c q) (hf : Fr S w w') (hn : ∀ k, ρ k ≠ .no → ¬ S k) : DK w' ρ d M c q :=
  h.keep hf.size fun k e => hf.block k (h.lt k e) (hn k e)
theorem DK.no (h : DK w ρ d M c q) (hf : No w w') : DK w' ρ d M c q := h.fr hf fun _ _ => id

/-- What an operation on a disk leaves: other blocks are as they were; the disk's blocks are the old ones and new ones. -/
structure Op' (w : World) (ρ : Nat → Role) (w' : World) (ρ' : Nat → Role) : Prop where
  fr : Fr (fun k => ρ k ≠ .no) w w'
  roles : ∀ k, ρ' k ≠ .no → ρ k ≠ .no ∨ w.heap.size ≤ k
theorem Op'.refl (w : World) (ρ : Nat → Role) : Op' w ρ w ρ := ⟨Fr.refl _ _, fun _ h => .inl h⟩
theorem Op'.trans {w1 w2 : World} {ρ1 ρ2 : Nat → Role} (h : Op' w ρ w1 ρ1) (k : Op' w1 ρ1 w2 ρ2) : Op' w ρ w2 ρ2 :=
  ⟨h.fr.trans k.fr fun i hi e => (h.roles i e).resolve_right (by omega), fun i e => (k.roles i e).elim (fun a => h.roles i a) fun a => .inr (Nat.le_trans h.fr.size a)⟩
theorem Op'.of_no (h : No w w') : Op' w ρ w' ρ := ⟨h.mono fun _ _ a => a.elim, fun _ a => .inl a⟩
theorem Op'.rb {ρ' : Nat → Role} (h : Op' w ρ w' ρ') {v : Value} {l : List UInt8} (hr : RB w v l) (hv : ∀ k, v.ownBlock = some k → ρ k = .no) : RB w' v l :=
  Rd.fr hr h.fr fun k e => by rw [hv k e]; simp

theorem Op'.ra {ρ' : Nat → Role} (h : Op' w ρ w' ρ') {v : Value} {l : List UInt8} (hr : RA w v l) (hv : ∀ k, v.ownBlock = some k → l ≠ [] → ρ k = .no) : RA w' v l :=
  hr.fr h.fr fun k e hl => by rw [hv k e hl]; simp

theorem look_ptr (h : DKs w ρ db mb n D M c q) (name : ByteArray) (hn : name.size ≤ maxLen) :
    (M name.data.toList = none ∧ ∀ w' : World, w'.heap[mb]? = w.heap[mb]? → (Instr.lookup 55 (.map (some mb)) (.string name) false).run Try.prog w' = .ok (.pointer none) w') ∨
    ∃ (f : Fl) (b : Nat) (v : Value), M name.data.toList = some f ∧ (∀ w' : World, w'.heap[mb]? = w.heap[mb]? → (Instr.lookup 55 (.map (some mb)) (.string name) false).run Try.prog w' = .ok (.pointer (some ⟨b, 0, none⟩)) w') ∧
      (∀ z, D.atKey (.string name.data.toList) z = .lit (.int .i64 b)) ∧
      ρ b = .fil name.data.toList ∧ w.heap[b]? = some (.cells #[v, .int .i64 f.lasts, .bool f.there] 61 (0, 0)) ∧ OB 0 w v f.b ∧ (∀ k, v.ownBlock = some k → ρ k = .byt name.data.toList) ∧ f.lasts ≤ f.b.length ∧ f.b.length ≤ 1048576 := by
  have hr : ∀ w' : World, w'.heap[mb]? = w.heap[mb]? → ∃ v ps, (Instr.lookup 55 (.map (some mb)) (.string name) false).run Try.prog w' = .ok v w' ∧ ptrElem v = some (D.atKey (.string name.data.toList) .nil, ps) := fun w' e =>
    (ownsMap_keep h.own e).lookup (zd := .nil) (zp := []) (z := .pointer none) (string_keyed Try.underlying9) Try.underlying55 (by kernel_rfl) rfl (WideMaps.keyOf_string_mk Try.underlying9 hn)
  have hf := h.files name.data.toList
  cases hM : M name.data.toList with
  | none =>
    rw [hM] at hf
    refine .inl ⟨rfl, fun w' e => ?_⟩
    obtain ⟨v, ps, hrun, hv⟩ := hr w' e
    rw [Maps.atKey_of_not_has hf] at hv
    rcases ptrElem_inv hv with ⟨rfl, _⟩ | ⟨b, rfl, e⟩
    · exact hrun
    · cases e
  | some f =>
    rw [hM] at hf
    obtain ⟨b, u, h1, h2⟩ := hf
    refine .inr ⟨f, b, u, rfl, fun w' e => ?_, h1, h2⟩
    obtain ⟨v, ps, hrun, hv⟩ := hr w' e
    rw [h1] at hv
    rcases ptrElem_inv hv with ⟨rfl, e⟩ | ⟨b', rfl, e⟩
    · cases e
    · simp at e
      have e' : b = b' := by omega
      subst e'
      exact hrun
end
end Go.Proofs.Ytgbfbijjbkfglaa
