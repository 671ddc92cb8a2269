/-
  Slices of structs. Plain laws over any program.
-/
import Derived.Test.YtbdkicmdidcdcaaZQ
namespace Go.Proofs.Ytbdkicmdidcdcaa
open Go.RowKit

/-- A slice of elements of k cells, which may be appended to. -/
abbrev esl (k : Nat) (v : Value) (els : List (List Value)) : Res := .sl k v els.length els.flatten
theorem flat_at {k : Nat} : ∀ {els : List (List Value)} {j : Nat} {e : List Value}, (∀ x ∈ els, x.length = k) → els[j]? = some e → (els.flatten.drop (j * k)).take k = e ∧ (j + 1) * k ≤ els.flatten.length
  | [], j, e, _, h => by simp at h
  | x :: els, 0, e, hk, h => by
    simp at h
    subst h
    have := hk x (by simp)
    simp only [List.flatten_cons, Nat.zero_mul, List.drop_zero, List.length_append]
    exact ⟨List.take_left' this, by omega⟩
  | x :: els, j + 1, e, hk, h => by
    have hx := hk x (by simp)
    obtain ⟨h1, h2⟩ := flat_at (els := els) (j := j) (fun y hy => hk y (List.mem_cons_of_mem _ hy)) (by simpa using h)
    have e1 : (j + 1) * k = x.length + j * k := by rw [Nat.succ_mul, hx]; omega
    simp only [List.flatten_cons, List.length_append]
    refine ⟨?_, ?_⟩
    · rw [e1, ← List.drop_drop, List.drop_left]; exact h1
    · rw [Nat.succ_mul, e1]
      have e2 : (j + 1) * k = j * k + k := Nat.succ_mul _ _
      omega
theorem flat_len {k : Nat} : ∀ {els : List (List Value)}, (∀ x ∈ els, x.length = k) → els.flatten.length = els.length * k
  | [], _ => by simp
  | x :: els, h => by
    have := flat_len (els := els) (fun y hy => h y (List.mem_cons_of_mem _ hy))
    have hx := h x (by simp)
    simp only [List.flatten_cons, List.length_append, List.length_cons, Nat.succ_mul]
    omega
theorem Rd.some' {s n cap : Nat} {w : World} {a : Option Addr} {xs : List Value} (h : Rd s w (.slice a n cap) n xs) (hn : 0 < n) : ∃ g off, a = some ⟨g, off, none⟩ := by
  rcases h.shape with ⟨h1, h2, _⟩ | ⟨g, off, cap', h1, _⟩
  · omega
  · simp at h1
    exact ⟨g, off, h1.1⟩
theorem Rd.form {s n : Nat} {w : World} {v : Value} {xs : List Value} (h : Rd s w v n xs) : ∃ a cap, v = .slice a n cap := by
  rcases h.shape with ⟨rfl, rfl, _⟩ | ⟨g, off, cap', rfl, _⟩
  · exact ⟨_, _, rfl⟩
  · exact ⟨_, _, rfl⟩
theorem Rd.elem {k n g off cap j : Nat} {w : World} {els : List (List Value)} {e : List Value} (h : Rd k w (.slice (some ⟨g, off, none⟩) n cap) n els.flatten) (hk : ∀ x ∈ els, x.length = k) (he : els[j]? = some e) :
    ∃ cur t fz, w.heap[g]? = some (.cells cur t fz) ∧ (cur.toList.drop (off + j * k)).take k = e ∧ e.length = k := by
  obtain ⟨h1, h2, ⟨h3, _⟩ | ⟨g', off', cap', cur, t, fz, hv, hb, hc, _⟩⟩ := h
  · cases h3
  obtain ⟨⟨rfl, rfl⟩, rfl⟩ : (g = g' ∧ off = off') ∧ cap = cap' := by simpa using hv
  obtain ⟨f1, f2⟩ := flat_at hk he
  refine ⟨cur, t, fz, hb, ?_, hk e (List.mem_of_getElem? he)⟩
  rw [← hc, List.drop_take, List.take_take, List.drop_drop] at f1
  have : min k (n * k - j * k) = k := by
    rw [h1] at f2
    have e2 : (j + 1) * k = j * k + k := Nat.succ_mul _ _
    omega
  rw [this] at f1
  exact f1
theorem Src.ofBlk {P : Program} {k : Nat} {tx e' : TypeId} {w : World} {g : Nat} {el : List Value} {tt : TypeId} {fz : Nat × Nat} (hk : P.underlying tx = some (.slice e')) (hg : w.heap[g]? = some (.cells el.toArray tt fz)) (hl : el.length = k) (h1 : ∀ u ∈ el, u.oneCell' = true) :
    Go.Src P k tx (.slice (some ⟨g, 0, none⟩) 1 1) 1 el w :=
  Go.Src.ofSlice w hk ⟨g, 0, none⟩ 1 1 el (by omega) (fun j u hu => by
    rw [addr_add, cell_of_row _ _ _ _ _ _ hg]
    simpa using hu) h1
section
variable {P : Program} {n : Nat} {Q : Post} {ρ : Env} {w : World} {ops : Array Oper} {rest : List Oper} {d : Nat} {T : TypeId} {p : String} {af : Array Edge} {gd : Option (Nat × Bool)}
variable {S : Nat → Prop} {w0 : World} {L M : List Res}
theorem x_ldE {t k m g off off' cap : Nat} (j : Nat) {x : Operand} {els : List (List Value)} {e : List Value} [AggOf P t k] (h : Rd k w (.slice (some ⟨g, off, none⟩) m cap) m els.flatten) (hk : ∀ x ∈ els, x.length = k) (he : els[j]? = some e) (hx : ev ρ x = .pointer (some ⟨g, off', none⟩) := by rfl) (ho : off + j * k = off' := by rfl) :
    (execOp (ev ρ) ⟨some d, .load t x, T, p, af, gd⟩).run P w = .ok (.value (.agg e.toArray)) w := by
  subst ho
  obtain ⟨cur, tt, fz, h1, h2, h3⟩ := h.elem hk he
  exact x_ldA (l := cur.toList) (tt := tt) (fz := fz) (by rw [Array.toArray_toList]; exact h1) hx h2 h3
theorem q_loadE {t k m g off off' cap : Nat} (j : Nat) {x : Operand} {els : List (List Value)} {e : List Value} [AggOf P t k] (h : Rd k w (.slice (some ⟨g, off, none⟩) m cap) m els.flatten) (hk : ∀ x ∈ els, x.length = k) (he : els[j]? = some e) (hq : LW P n ops Q rest (upd ρ d (.agg e.toArray)) w) (hx : ev ρ x = .pointer (some ⟨g, off', none⟩) := by rfl) (ho : off + j * k = off' := by rfl)
    (hd : Nat.blt d n = true := by rfl) (hw : Wanted ops ρ gd := by first | exact .none | exact .some ⟨_, rfl, rfl⟩) :
    LW P n ops Q (⟨some d, .load t x, T, p, af, gd⟩ :: rest) ρ w := lw_value hw hd (x_ldE j h hk he hx ho) hq
/-- 'append' of one element. -/
theorem q_appE {t e b k g : Nat} {z : List Value} {a x : Operand} {v : Value} {els : List (List Value)} {el : List Value} {tt : TypeId} {fz : Nat × Nat} {M' : List Res} [hs : SlOf P t e z k b] (H : St S w0 L w)
    (h : ∀ v' w', St S w0 (esl k v' (els ++ [el]) :: M) w' → LW P n ops Q rest (upd ρ d v') w')
    (htk : Take L (esl k v els) M) (htx : Take L (.pt g (.cells el.toArray tt fz)) M') (hl : el.length = k) (h1 : ∀ u ∈ el, u.oneCell' = true)
    (ha : ev ρ a = v := by conv => lhs; whnf) (hx : ev ρ x = .slice (some ⟨g, 0, none⟩) 1 1 := by rfl)
    (h63 : els.length + 1 ≤ 100000000000 := by omega) (hbb : b ≤ 1000 := by decide) (hd : Nat.blt d n = true := by rfl) (hw : Wanted ops ρ gd := by first | exact .none | exact .some ⟨_, rfl, rfl⟩) :
    LW P n ops Q (⟨some d, .call { callee := .builtin .append, args := #[a, x], argTypes := #[t, t] }, T, p, af, gd⟩ :: rest) ρ w :=
  q_append H (Src.ofBlk hs.und (H.blk htx) hl h1) (fun v' w' h1 _ => h v' w' (by
    have e1 : (els ++ [el]).length = els.length + 1 := by simp
    have e2 : (els ++ [el]).flatten = els.flatten ++ el := by simp
    unfold esl; rw [e1, e2]; exact h1)) ha hx htk h63 hbb hd hw
/-- A store of a byte into bytes that are a part. -/
theorem q_storeRB {t : Nat} {x y : Operand} {g off : Nat} (i j : Nat) {b : UInt8} {c c' : B32} {ss ss' : List (List Value)} {ns : List Nat} {tt : TypeId} [CellOf P t] (H : St S w0 L w) (hcc : c' = ⟨c.l.set j b, by rw [List.length_set, c.len]⟩) (h : ∀ w', St S w0 (cells g (cat ss') tt :: M) w' → LW P n ops Q rest ρ w') (hx : ev ρ x = .pointer (some ⟨g, off, none⟩) := by rfl)
    (hy : ev ρ y = .int .u8 (by8 b) := by rfl)
    (ht : Take L (cells g (cat ss) tt) M := by first | exact .z | exact .s .z | exact .s (.s .z) | exact .s (.s (.s .z)) | exact .s (.s (.s (.s .z))) | exact .s (.s (.s (.s (.s .z)))) | exact .s (.s (.s (.s (.s (.s .z))))) | exact .s (.s (.s (.s (.s (.s (.s .z)))))) | exact .s (.s (.s (.s (.s (.s (.s (.s .z))))))) | exact .s (.s (.s (.s (.s (.s (.s (.s (.s .z)))))))) | exact .s (.s (.s (.s (.s (.s (.s (.s (.s (.s .z))))))))) | exact .s (.s (.s (.s (.s (.s (.s (.s (.s (.s (.s .z)))))))))) | exact .s (.s (.s (.s (.s (.s (.s (.s (.s (.s (.s (.s .z))))))))))) | exact .s (.s (.s (.s (.s (.s (.s (.s (.s (.s (.s (.s (.s .z)))))))))))) | exact .s (.s (.s (.s (.s (.s (.s (.s (.s (.s (.s (.s (.s (.s .z))))))))))))) | exact .s (.s (.s (.s (.s (.s (.s (.s (.s (.s (.s (.s (.s (.s (.s .z)))))))))))))) | exact .s (.s (.s (.s (.s (.s (.s (.s (.s (.s (.s (.s (.s (.s (.s (.s .z))))))))))))))) | exact .s (.s (.s (.s (.s (.s (.s (.s (.s (.s (.s (.s (.s (.s (.s (.s (.s .z)))))))))))))))) | exact .s (.s (.s (.s (.s (.s (.s (.s (.s (.s (.s (.s (.s (.s (.s (.s (.s (.s .z))))))))))))))))) | exact .s (.s (.s (.s (.s (.s (.s (.s (.s (.s (.s (.s (.s (.s (.s (.s (.s (.s (.s .z)))))))))))))))))) | exact .s (.s (.s (.s (.s (.s (.s (.s (.s (.s (.s (.s (.s (.s (.s (.s (.s (.s (.s (.s .z))))))))))))))))))) | exact .s (.s (.s (.s (.s (.s (.s (.s (.s (.s (.s (.s (.s (.s (.s (.s (.s (.s (.s (.s (.s .z)))))))))))))))))))))
    (hn : SegsOf ss ns := by infer_instance) (ho : (ns.take i).sum + j = off := by rfl) (hl : ns[i]? = some 32 := by rfl) (hj : j < 32 := by omega) (hu : ss[i]? = some (bs c.l) := by rfl) (hs : SetS ss i (bs c'.l) ss' := by repeat (first | exact SetS.z | apply SetS.s))
    (hw : Wanted ops ρ gd := by first | exact .none | exact .some ⟨_, rfl, rfl⟩) :
    LW P n ops Q (⟨none, .store t x y, T, p, af, gd⟩ :: rest) ρ w := by
  obtain ⟨_, rfl⟩ := hs.eq
  subst hcc
  have hp : PartAt ns (ns.take i).sum 32 i := ⟨rfl, hl⟩
  obtain ⟨c1, c2, c3⟩ := cat_part hn.out hp hu
  have e : (cat ss).set off (.int .u8 (by8 b)) = cat (ss.set i (bs (c.l.set j b))) := by
    have hf := cat_front hn.out i
    obtain ⟨hi, _⟩ := List.getElem?_eq_some_iff.1 hu
    have h2 : (ss.set i (bs (c.l.set j b)))[i]? = some (bs (c.l.set j b)) := by simp [hi]
    rw [cat_split h2, cat_split hu, List.take_set_of_le (Nat.le_refl _), List.drop_set_of_lt (Nat.lt_succ_self _), ← ho]
    rw [List.set_append_right _ _ (by omega), hf, Nat.add_sub_cancel_left, List.set_append_left _ _ (by rw [c2]; exact hj)]
    congr 2
    unfold bs; rw [List.map_set]
  exact q_store H h hx hy ht (SetL.of (by rw [← ho]; omega) e) rfl rfl hw
end
end Go.Proofs.Ytbdkicmdidcdcaa
