/-
  Structs in memory, by their parts. Plain laws over any program.
-/
import Derived.Test.YtbdkicmdidcdcaaZI
namespace Go.Proofs.Ytbdkicmdidcdcaa
open Go.RowKit

/-- Thirty-two bytes. -/
structure B32 where
  l : List UInt8
  len : l.length = 32
theorem B32.of {l : List UInt8} (h : l.length = 32) : ∃ b : B32, l = b.l := ⟨⟨l, h⟩, rfl⟩
theorem B32.ext' {a b : B32} (h : a.l = b.l) : a = b := by cases a; cases b; simp_all
def B32.zero : B32 := ⟨List.replicate 32 0, rfl⟩
/-- Parts side by side. -/
def cat (ss : List (List Value)) : List Value := ss.flatten
class PartOf (s : List Value) (n : outParam Nat) : Prop where
  len : s.length = n
class SegsOf (ss : List (List Value)) (ns : outParam (List Nat)) : Prop where
  out : ss.map List.length = ns
instance partNil : PartOf [] 0 := ⟨rfl⟩
instance partCons {v : Value} {s : List Value} {n : Nat} [h : PartOf s n] : PartOf (v :: s) (n + 1) := ⟨by rw [List.length_cons, h.len]⟩
instance partB (b : B32) : PartOf (bs b.l) 32 := ⟨by rw [bs_length, b.len]⟩
instance partZ (n : Nat) : PartOf (bs (List.replicate n 0)) n := ⟨by rw [bs_length, List.length_replicate]⟩
instance segsNil : SegsOf [] [] := ⟨rfl⟩
instance segsCons {s : List Value} {n : Nat} {ss : List (List Value)} {ns : List Nat} [h : PartOf s n] [k : SegsOf ss ns] : SegsOf (s :: ss) (n :: ns) := ⟨by rw [List.map_cons, h.len, k.out]⟩
theorem partLen (s : List Value) (n : Nat) [h : PartOf s n] : s.length = n := h.len
/-- The i-th part, of k cells, is at the place off. -/
structure PartAt (ns : List Nat) (off k i : Nat) : Prop where
  off : (ns.take i).sum = off
  len : ns[i]? = some k
inductive SetS : List (List Value) → Nat → List Value → List (List Value) → Prop
  | z {a v : List Value} {l : List (List Value)} : SetS (a :: l) 0 v (v :: l)
  | s {a v : List Value} {l l' : List (List Value)} {k : Nat} : SetS l k v l' → SetS (a :: l) (k + 1) v (a :: l')
theorem SetS.eq {l l' : List (List Value)} {k : Nat} {v : List Value} (h : SetS l k v l') : k < l.length ∧ l' = l.set k v := by
  induction h with
  | z => simp
  | s _ ih => obtain ⟨a, rfl⟩ := ih; simp; exact a
theorem cat_split {ss : List (List Value)} {i : Nat} {s : List Value} (h : ss[i]? = some s) : cat ss = cat (ss.take i) ++ (s ++ cat (ss.drop (i + 1))) := by
  obtain ⟨hi, h⟩ := List.getElem?_eq_some_iff.1 h
  unfold cat
  have e : ss = ss.take i ++ s :: ss.drop (i + 1) := by
    rw [← h, ← List.drop_eq_getElem_cons hi, List.take_append_drop]
  conv => lhs; rw [e]
  simp
theorem cat_front {ss : List (List Value)} {ns : List Nat} (h : ss.map List.length = ns) (i : Nat) : (cat (ss.take i)).length = (ns.take i).sum := by
  subst h
  unfold cat
  rw [List.length_flatten, List.map_take]
theorem cat_len {ss : List (List Value)} {ns : List Nat} (h : ss.map List.length = ns) : (cat ss).length = ns.sum := by
  subst h
  unfold cat
  rw [List.length_flatten]
theorem cat_part {ss : List (List Value)} {ns : List Nat} {off k i : Nat} {s : List Value} (h : ss.map List.length = ns) (p : PartAt ns off k i) (hs : ss[i]? = some s) :
    ((cat ss).drop off).take k = s ∧ s.length = k ∧ off + k ≤ (cat ss).length := by
  have h1 := cat_front h i
  have hl : s.length = k := by
    have := p.len
    rw [← h, List.getElem?_map, hs] at this
    simpa using this
  rw [p.off] at h1
  rw [cat_split hs]
  refine ⟨?_, hl, ?_⟩
  · rw [List.drop_left' h1]
    exact List.take_left' hl
  · simp only [List.length_append]; omega
theorem cat_set {ss : List (List Value)} {ns : List Nat} {off k i : Nat} {s cs : List Value} (h : ss.map List.length = ns) (p : PartAt ns off k i) (hs : ss[i]? = some s) :
    (cat ss).take off ++ cs ++ (cat ss).drop (off + k) = cat (ss.set i cs) := by
  have h1 := cat_front h i
  obtain ⟨_, hl, _⟩ := cat_part h p hs
  rw [p.off] at h1
  obtain ⟨hi, _⟩ := List.getElem?_eq_some_iff.1 hs
  have h2 : (ss.set i cs)[i]? = some cs := by simp [hi]
  rw [cat_split h2, cat_split hs, List.take_left' h1, List.take_set_of_le (Nat.le_refl _), List.drop_set_of_lt (Nat.lt_succ_self _)]
  have e : (cat (ss.take i) ++ (s ++ cat (ss.drop (i + 1)))).drop (off + k) = cat (ss.drop (i + 1)) := by
    rw [← List.append_assoc]
    exact List.drop_left' (by rw [List.length_append, h1, hl])
  rw [e, List.append_assoc]
theorem cat_cell {ss : List (List Value)} {ns : List Nat} {off i : Nat} {v : Value} (h : ss.map List.length = ns) (p : PartAt ns off 1 i) (hs : ss[i]? = some [v]) : (cat ss)[off]? = some v := by
  obtain ⟨h1, _, h3⟩ := cat_part h p hs
  have h4 : (((cat ss).drop off).take 1)[0]? = some v := by rw [h1]; rfl
  rw [List.getElem?_take] at h4
  simpa using h4
theorem cat_in {ss : List (List Value)} {ns : List Nat} {off k i j : Nat} {s : List Value} {v : Value} (h : ss.map List.length = ns) (p : PartAt ns off k i) (hs : ss[i]? = some s) (hv : s[j]? = some v) : (cat ss)[off + j]? = some v := by
  obtain ⟨h1, h2, h3⟩ := cat_part h p hs
  have hj := (List.getElem?_eq_some_iff.1 hv).1
  have h4 : (((cat ss).drop off).take k)[j]? = some v := by rw [h1]; exact hv
  rw [List.getElem?_take, if_pos (by omega), List.getElem?_drop] at h4
  exact h4
section
variable {P : Program} {n : Nat} {Q : Post} {ρ : Env} {w : World} {ops : Array Oper} {rest : List Oper} {d : Nat} {T : TypeId} {p : String} {af : Array Edge} {gd : Option (Nat × Bool)}
variable {S : Nat → Prop} {w0 : World} {L M : List Res}
/-- A field of one cell. -/
theorem q_loadRC {t : Nat} {x : Operand} {g off i : Nat} {v : Value} {ss : List (List Value)} {ns : List Nat} {tt : TypeId} {fz : Nat × Nat} [CellOf P t] (H : St S w0 L w) (h : LW P n ops Q rest (upd ρ d v) w) (hx : ev ρ x = .pointer (some ⟨g, off, none⟩) := by rfl)
    (ht : Take L (.pt g (.cells (cat ss).toArray tt fz)) M := by first | exact .z | exact .s .z | exact .s (.s .z) | exact .s (.s (.s .z)) | exact .s (.s (.s (.s .z))) | exact .s (.s (.s (.s (.s .z)))) | exact .s (.s (.s (.s (.s (.s .z))))) | exact .s (.s (.s (.s (.s (.s (.s .z)))))) | exact .s (.s (.s (.s (.s (.s (.s (.s .z))))))) | exact .s (.s (.s (.s (.s (.s (.s (.s (.s .z)))))))) | exact .s (.s (.s (.s (.s (.s (.s (.s (.s (.s .z))))))))) | exact .s (.s (.s (.s (.s (.s (.s (.s (.s (.s (.s .z)))))))))) | exact .s (.s (.s (.s (.s (.s (.s (.s (.s (.s (.s (.s .z))))))))))) | exact .s (.s (.s (.s (.s (.s (.s (.s (.s (.s (.s (.s (.s .z)))))))))))) | exact .s (.s (.s (.s (.s (.s (.s (.s (.s (.s (.s (.s (.s (.s .z))))))))))))) | exact .s (.s (.s (.s (.s (.s (.s (.s (.s (.s (.s (.s (.s (.s (.s .z)))))))))))))) | exact .s (.s (.s (.s (.s (.s (.s (.s (.s (.s (.s (.s (.s (.s (.s (.s .z))))))))))))))) | exact .s (.s (.s (.s (.s (.s (.s (.s (.s (.s (.s (.s (.s (.s (.s (.s (.s .z)))))))))))))))) | exact .s (.s (.s (.s (.s (.s (.s (.s (.s (.s (.s (.s (.s (.s (.s (.s (.s (.s .z))))))))))))))))) | exact .s (.s (.s (.s (.s (.s (.s (.s (.s (.s (.s (.s (.s (.s (.s (.s (.s (.s (.s .z)))))))))))))))))) | exact .s (.s (.s (.s (.s (.s (.s (.s (.s (.s (.s (.s (.s (.s (.s (.s (.s (.s (.s (.s .z))))))))))))))))))) | exact .s (.s (.s (.s (.s (.s (.s (.s (.s (.s (.s (.s (.s (.s (.s (.s (.s (.s (.s (.s (.s .z)))))))))))))))))))))
    (hn : SegsOf ss ns := by infer_instance) (hp : PartAt ns off 1 i := by first | exact PartAt.mk (i := 0) rfl rfl | exact PartAt.mk (i := 1) rfl rfl | exact PartAt.mk (i := 2) rfl rfl | exact PartAt.mk (i := 3) rfl rfl | exact PartAt.mk (i := 4) rfl rfl | exact PartAt.mk (i := 5) rfl rfl | exact PartAt.mk (i := 6) rfl rfl | exact PartAt.mk (i := 7) rfl rfl | exact PartAt.mk (i := 8) rfl rfl | exact PartAt.mk (i := 9) rfl rfl | exact PartAt.mk (i := 10) rfl rfl | exact PartAt.mk (i := 11) rfl rfl | exact PartAt.mk (i := 12) rfl rfl | exact PartAt.mk (i := 13) rfl rfl) (hv : ss[i]? = some [v] := by rfl) (hd : Nat.blt d n = true := by rfl) (hw : Wanted ops ρ gd := by first | exact .none | exact .some ⟨_, rfl, rfl⟩) :
    LW P n ops Q (⟨some d, .load t x, T, p, af, gd⟩ :: rest) ρ w := q_loadC h (by rw [cell_of_row _ _ _ _ _ _ (H.blk ht)]; simpa using cat_cell hn.out hp hv) hx hd hw
theorem q_loadR {t k : Nat} {x : Operand} {g off i : Nat} {s : List Value} {ss : List (List Value)} {ns : List Nat} {tt : TypeId} {fz : Nat × Nat} [AggOf P t k] (H : St S w0 L w) (h : LW P n ops Q rest (upd ρ d (.agg s.toArray)) w) (hx : ev ρ x = .pointer (some ⟨g, off, none⟩) := by rfl)
    (ht : Take L (.pt g (.cells (cat ss).toArray tt fz)) M := by first | exact .z | exact .s .z | exact .s (.s .z) | exact .s (.s (.s .z)) | exact .s (.s (.s (.s .z))) | exact .s (.s (.s (.s (.s .z)))) | exact .s (.s (.s (.s (.s (.s .z))))) | exact .s (.s (.s (.s (.s (.s (.s .z)))))) | exact .s (.s (.s (.s (.s (.s (.s (.s .z))))))) | exact .s (.s (.s (.s (.s (.s (.s (.s (.s .z)))))))) | exact .s (.s (.s (.s (.s (.s (.s (.s (.s (.s .z))))))))) | exact .s (.s (.s (.s (.s (.s (.s (.s (.s (.s (.s .z)))))))))) | exact .s (.s (.s (.s (.s (.s (.s (.s (.s (.s (.s (.s .z))))))))))) | exact .s (.s (.s (.s (.s (.s (.s (.s (.s (.s (.s (.s (.s .z)))))))))))) | exact .s (.s (.s (.s (.s (.s (.s (.s (.s (.s (.s (.s (.s (.s .z))))))))))))) | exact .s (.s (.s (.s (.s (.s (.s (.s (.s (.s (.s (.s (.s (.s (.s .z)))))))))))))) | exact .s (.s (.s (.s (.s (.s (.s (.s (.s (.s (.s (.s (.s (.s (.s (.s .z))))))))))))))) | exact .s (.s (.s (.s (.s (.s (.s (.s (.s (.s (.s (.s (.s (.s (.s (.s (.s .z)))))))))))))))) | exact .s (.s (.s (.s (.s (.s (.s (.s (.s (.s (.s (.s (.s (.s (.s (.s (.s (.s .z))))))))))))))))) | exact .s (.s (.s (.s (.s (.s (.s (.s (.s (.s (.s (.s (.s (.s (.s (.s (.s (.s (.s .z)))))))))))))))))) | exact .s (.s (.s (.s (.s (.s (.s (.s (.s (.s (.s (.s (.s (.s (.s (.s (.s (.s (.s (.s .z))))))))))))))))))) | exact .s (.s (.s (.s (.s (.s (.s (.s (.s (.s (.s (.s (.s (.s (.s (.s (.s (.s (.s (.s (.s .z)))))))))))))))))))))
    (hn : SegsOf ss ns := by infer_instance) (hp : PartAt ns off k i := by first | exact PartAt.mk (i := 0) rfl rfl | exact PartAt.mk (i := 1) rfl rfl | exact PartAt.mk (i := 2) rfl rfl | exact PartAt.mk (i := 3) rfl rfl | exact PartAt.mk (i := 4) rfl rfl | exact PartAt.mk (i := 5) rfl rfl | exact PartAt.mk (i := 6) rfl rfl | exact PartAt.mk (i := 7) rfl rfl | exact PartAt.mk (i := 8) rfl rfl | exact PartAt.mk (i := 9) rfl rfl | exact PartAt.mk (i := 10) rfl rfl | exact PartAt.mk (i := 11) rfl rfl | exact PartAt.mk (i := 12) rfl rfl | exact PartAt.mk (i := 13) rfl rfl) (hv : ss[i]? = some s := by rfl) (hd : Nat.blt d n = true := by rfl) (hw : Wanted ops ρ gd := by first | exact .none | exact .some ⟨_, rfl, rfl⟩) :
    LW P n ops Q (⟨some d, .load t x, T, p, af, gd⟩ :: rest) ρ w := q_loadA H h hx ht (cat_part hn.out hp hv).1 (cat_part hn.out hp hv).2.1 hd hw
theorem q_loadRW {t k : Nat} {x : Operand} {g : Nat} {ss : List (List Value)} {ns : List Nat} {tt : TypeId} {fz : Nat × Nat} [AggOf P t k] (H : St S w0 L w) (h : LW P n ops Q rest (upd ρ d (.agg (cat ss).toArray)) w) (hx : ev ρ x = .pointer (some ⟨g, 0, none⟩) := by rfl)
    (ht : Take L (.pt g (.cells (cat ss).toArray tt fz)) M := by first | exact .z | exact .s .z | exact .s (.s .z) | exact .s (.s (.s .z)) | exact .s (.s (.s (.s .z))) | exact .s (.s (.s (.s (.s .z)))) | exact .s (.s (.s (.s (.s (.s .z))))) | exact .s (.s (.s (.s (.s (.s (.s .z)))))) | exact .s (.s (.s (.s (.s (.s (.s (.s .z))))))) | exact .s (.s (.s (.s (.s (.s (.s (.s (.s .z)))))))) | exact .s (.s (.s (.s (.s (.s (.s (.s (.s (.s .z))))))))) | exact .s (.s (.s (.s (.s (.s (.s (.s (.s (.s (.s .z)))))))))) | exact .s (.s (.s (.s (.s (.s (.s (.s (.s (.s (.s (.s .z))))))))))) | exact .s (.s (.s (.s (.s (.s (.s (.s (.s (.s (.s (.s (.s .z)))))))))))) | exact .s (.s (.s (.s (.s (.s (.s (.s (.s (.s (.s (.s (.s (.s .z))))))))))))) | exact .s (.s (.s (.s (.s (.s (.s (.s (.s (.s (.s (.s (.s (.s (.s .z)))))))))))))) | exact .s (.s (.s (.s (.s (.s (.s (.s (.s (.s (.s (.s (.s (.s (.s (.s .z))))))))))))))) | exact .s (.s (.s (.s (.s (.s (.s (.s (.s (.s (.s (.s (.s (.s (.s (.s (.s .z)))))))))))))))) | exact .s (.s (.s (.s (.s (.s (.s (.s (.s (.s (.s (.s (.s (.s (.s (.s (.s (.s .z))))))))))))))))) | exact .s (.s (.s (.s (.s (.s (.s (.s (.s (.s (.s (.s (.s (.s (.s (.s (.s (.s (.s .z)))))))))))))))))) | exact .s (.s (.s (.s (.s (.s (.s (.s (.s (.s (.s (.s (.s (.s (.s (.s (.s (.s (.s (.s .z))))))))))))))))))) | exact .s (.s (.s (.s (.s (.s (.s (.s (.s (.s (.s (.s (.s (.s (.s (.s (.s (.s (.s (.s (.s .z)))))))))))))))))))))
    (hn : SegsOf ss ns := by infer_instance) (hk : ns.sum = k := by rfl) (hd : Nat.blt d n = true := by rfl) (hw : Wanted ops ρ gd := by first | exact .none | exact .some ⟨_, rfl, rfl⟩) :
    LW P n ops Q (⟨some d, .load t x, T, p, af, gd⟩ :: rest) ρ w := q_loadW H h hx ht (by rw [cat_len hn.out, hk]) hd hw
theorem x_ldRC {t : Nat} {x : Operand} {g off i : Nat} {v : Value} {ss : List (List Value)} {ns : List Nat} {tt : TypeId} {fz : Nat × Nat} [CellOf P t] (hg : w.heap[g]? = some (.cells (cat ss).toArray tt fz)) (hx : ev ρ x = .pointer (some ⟨g, off, none⟩) := by rfl)
    (hn : SegsOf ss ns := by infer_instance) (hp : PartAt ns off 1 i := by first | exact PartAt.mk (i := 0) rfl rfl | exact PartAt.mk (i := 1) rfl rfl | exact PartAt.mk (i := 2) rfl rfl | exact PartAt.mk (i := 3) rfl rfl | exact PartAt.mk (i := 4) rfl rfl | exact PartAt.mk (i := 5) rfl rfl | exact PartAt.mk (i := 6) rfl rfl | exact PartAt.mk (i := 7) rfl rfl | exact PartAt.mk (i := 8) rfl rfl | exact PartAt.mk (i := 9) rfl rfl | exact PartAt.mk (i := 10) rfl rfl | exact PartAt.mk (i := 11) rfl rfl | exact PartAt.mk (i := 12) rfl rfl | exact PartAt.mk (i := 13) rfl rfl) (hv : ss[i]? = some [v] := by rfl) : (execOp (ev ρ) ⟨some d, .load t x, T, p, af, gd⟩).run P w = .ok (.value v) w := x_ldC hg hx (cat_cell hn.out hp hv)
theorem x_ldA {t k : Nat} {x : Operand} {g off : Nat} {l vs : List Value} {tt : TypeId} {fz : Nat × Nat} [ha : AggOf P t k] (hg : w.heap[g]? = some (.cells l.toArray tt fz)) (hx : ev ρ x = .pointer (some ⟨g, off, none⟩)) (hvs : (l.drop off).take k = vs) (hl : vs.length = k) :
    (execOp (ev ρ) ⟨some d, .load t x, T, p, af, gd⟩).run P w = .ok (.value (.agg vs.toArray)) w := by
  obtain ⟨ds, hu, hdw, hs⟩ := ha.out
  have := run_loadVar_sub (P := P) w g off tt t l.toArray fz ds hg hu (by cases ds <;> simp_all [TypeDesc.wide]) k hs vs (by simpa using hvs) hl
  simp [execOp, hx, Instr.loadAt, Instr.sureAddr, this]
theorem x_ldR {t k : Nat} {x : Operand} {g off i : Nat} {s : List Value} {ss : List (List Value)} {ns : List Nat} {tt : TypeId} {fz : Nat × Nat} [AggOf P t k] (hg : w.heap[g]? = some (.cells (cat ss).toArray tt fz)) (hx : ev ρ x = .pointer (some ⟨g, off, none⟩) := by rfl)
    (hn : SegsOf ss ns := by infer_instance) (hp : PartAt ns off k i := by first | exact PartAt.mk (i := 0) rfl rfl | exact PartAt.mk (i := 1) rfl rfl | exact PartAt.mk (i := 2) rfl rfl | exact PartAt.mk (i := 3) rfl rfl | exact PartAt.mk (i := 4) rfl rfl | exact PartAt.mk (i := 5) rfl rfl | exact PartAt.mk (i := 6) rfl rfl | exact PartAt.mk (i := 7) rfl rfl | exact PartAt.mk (i := 8) rfl rfl | exact PartAt.mk (i := 9) rfl rfl | exact PartAt.mk (i := 10) rfl rfl | exact PartAt.mk (i := 11) rfl rfl | exact PartAt.mk (i := 12) rfl rfl | exact PartAt.mk (i := 13) rfl rfl) (hv : ss[i]? = some s := by rfl) : (execOp (ev ρ) ⟨some d, .load t x, T, p, af, gd⟩).run P w = .ok (.value (.agg s.toArray)) w := x_ldA hg hx (cat_part hn.out hp hv).1 (cat_part hn.out hp hv).2.1
theorem x_ldRW {t k : Nat} {x : Operand} {g : Nat} {ss : List (List Value)} {ns : List Nat} {tt : TypeId} {fz : Nat × Nat} [AggOf P t k] (hg : w.heap[g]? = some (.cells (cat ss).toArray tt fz)) (hx : ev ρ x = .pointer (some ⟨g, 0, none⟩) := by rfl)
    (hn : SegsOf ss ns := by infer_instance) (hk : ns.sum = k := by rfl) : (execOp (ev ρ) ⟨some d, .load t x, T, p, af, gd⟩).run P w = .ok (.value (.agg (cat ss).toArray)) w := x_ldW hg hx (by rw [cat_len hn.out, hk])
/-- A store of one cell. -/
theorem q_storeP {t : Nat} {x y : Operand} {g off : Nat} {v : Value} {l l' : List Value} {tt : TypeId} [hs : CellOf P t] (H : St S w0 L w) (h : ∀ w', St S w0 (cells g l' tt :: M) w' → LW P n ops Q rest ρ w') (hx : ev ρ x = .pointer (some ⟨g, off, none⟩) := by rfl)
    (hy : ev ρ y = v := by conv => lhs; whnf)
    (ht : Take L (cells g l tt) M := by first | exact .z | exact .s .z | exact .s (.s .z) | exact .s (.s (.s .z)) | exact .s (.s (.s (.s .z))) | exact .s (.s (.s (.s (.s .z)))) | exact .s (.s (.s (.s (.s (.s .z))))) | exact .s (.s (.s (.s (.s (.s (.s .z)))))))
    (hl : SetL l off v l' := by (repeat (first | exact SetL.z | apply SetL.s)) <;> fail)
    (h1 : v.oneCell' = true := by rfl) (hc : v.cells = #[v] := by rfl) (hw : Wanted ops ρ gd := by first | exact .none | exact .some ⟨_, rfl, rfl⟩) :
    LW P n ops Q (⟨none, .store t x y, T, p, af, gd⟩ :: rest) ρ w := by
  obtain ⟨h2, h3⟩ := hl.eq
  have H' := H.take ht
  refine lw_skip hw rfl (w' := w.setRow g l'.toArray) ?_ (h _ (H'.setRow _))
  have := run_storeVar_at (P := P) (t := t) (off := off) (v := v) (cs := [v]) hs.size (by rw [hc]) rfl (H'.blk .z) (by omega) (by intro u hu; simp at hu; subst hu; exact h1)
  simp only [execOp, hx, hy, Instr.storeAt, Instr.sureAddr, Sem.run_bind, Sem.run_pure, Result.andThen_ok]
  rw [this, h3]; rfl
/-- A store into a field. -/
theorem q_storeRC {t : Nat} {x y : Operand} {g off i : Nat} {v u : Value} {ss ss' : List (List Value)} {ns : List Nat} {tt : TypeId} [CellOf P t] (H : St S w0 L w) (h : ∀ w', St S w0 (cells g (cat ss') tt :: M) w' → LW P n ops Q rest ρ w') (hx : ev ρ x = .pointer (some ⟨g, off, none⟩) := by rfl)
    (hy : ev ρ y = v := by conv => lhs; whnf)
    (ht : Take L (cells g (cat ss) tt) M := by first | exact .z | exact .s .z | exact .s (.s .z) | exact .s (.s (.s .z)) | exact .s (.s (.s (.s .z))) | exact .s (.s (.s (.s (.s .z)))) | exact .s (.s (.s (.s (.s (.s .z))))) | exact .s (.s (.s (.s (.s (.s (.s .z)))))) | exact .s (.s (.s (.s (.s (.s (.s (.s .z))))))) | exact .s (.s (.s (.s (.s (.s (.s (.s (.s .z)))))))) | exact .s (.s (.s (.s (.s (.s (.s (.s (.s (.s .z))))))))) | exact .s (.s (.s (.s (.s (.s (.s (.s (.s (.s (.s .z)))))))))) | exact .s (.s (.s (.s (.s (.s (.s (.s (.s (.s (.s (.s .z))))))))))) | exact .s (.s (.s (.s (.s (.s (.s (.s (.s (.s (.s (.s (.s .z)))))))))))) | exact .s (.s (.s (.s (.s (.s (.s (.s (.s (.s (.s (.s (.s (.s .z))))))))))))) | exact .s (.s (.s (.s (.s (.s (.s (.s (.s (.s (.s (.s (.s (.s (.s .z)))))))))))))) | exact .s (.s (.s (.s (.s (.s (.s (.s (.s (.s (.s (.s (.s (.s (.s (.s .z))))))))))))))) | exact .s (.s (.s (.s (.s (.s (.s (.s (.s (.s (.s (.s (.s (.s (.s (.s (.s .z)))))))))))))))) | exact .s (.s (.s (.s (.s (.s (.s (.s (.s (.s (.s (.s (.s (.s (.s (.s (.s (.s .z))))))))))))))))) | exact .s (.s (.s (.s (.s (.s (.s (.s (.s (.s (.s (.s (.s (.s (.s (.s (.s (.s (.s .z)))))))))))))))))) | exact .s (.s (.s (.s (.s (.s (.s (.s (.s (.s (.s (.s (.s (.s (.s (.s (.s (.s (.s (.s .z))))))))))))))))))) | exact .s (.s (.s (.s (.s (.s (.s (.s (.s (.s (.s (.s (.s (.s (.s (.s (.s (.s (.s (.s (.s .z)))))))))))))))))))))
    (hn : SegsOf ss ns := by infer_instance) (hp : PartAt ns off 1 i := by first | exact PartAt.mk (i := 0) rfl rfl | exact PartAt.mk (i := 1) rfl rfl | exact PartAt.mk (i := 2) rfl rfl | exact PartAt.mk (i := 3) rfl rfl | exact PartAt.mk (i := 4) rfl rfl | exact PartAt.mk (i := 5) rfl rfl | exact PartAt.mk (i := 6) rfl rfl | exact PartAt.mk (i := 7) rfl rfl | exact PartAt.mk (i := 8) rfl rfl | exact PartAt.mk (i := 9) rfl rfl | exact PartAt.mk (i := 10) rfl rfl | exact PartAt.mk (i := 11) rfl rfl | exact PartAt.mk (i := 12) rfl rfl | exact PartAt.mk (i := 13) rfl rfl) (hu : ss[i]? = some [u] := by rfl) (hs : SetS ss i [v] ss' := by repeat (first | exact SetS.z | apply SetS.s))
    (h1 : v.oneCell' = true := by rfl) (hc : v.cells = #[v] := by rfl) (hw : Wanted ops ρ gd := by first | exact .none | exact .some ⟨_, rfl, rfl⟩) :
    LW P n ops Q (⟨none, .store t x y, T, p, af, gd⟩ :: rest) ρ w := by
  obtain ⟨_, rfl⟩ := hs.eq
  have h3 := (cat_part hn.out hp hu).2.2
  have h4 := cat_cell hn.out hp hu
  have e : (cat ss).set off v = cat (ss.set i [v]) := by
    rw [← cat_set hn.out hp hu, List.set_eq_take_append_cons_drop]
    simp [show off < (cat ss).length by omega]
  exact q_store H h hx hy ht (SetL.of (by omega) e) h1 hc hw
theorem q_storeR {t k : Nat} {x y : Operand} {g off i : Nat} {cs s : List Value} {ss ss' : List (List Value)} {ns : List Nat} {tt : TypeId} [AggOf P t k] (H : St S w0 L w) (h : ∀ w', St S w0 (cells g (cat ss') tt :: M) w' → LW P n ops Q rest ρ w') (hx : ev ρ x = .pointer (some ⟨g, off, none⟩) := by rfl)
    (hy : ev ρ y = .agg cs.toArray := by rfl)
    (ht : Take L (cells g (cat ss) tt) M := by first | exact .z | exact .s .z | exact .s (.s .z) | exact .s (.s (.s .z)) | exact .s (.s (.s (.s .z))) | exact .s (.s (.s (.s (.s .z)))) | exact .s (.s (.s (.s (.s (.s .z))))) | exact .s (.s (.s (.s (.s (.s (.s .z)))))) | exact .s (.s (.s (.s (.s (.s (.s (.s .z))))))) | exact .s (.s (.s (.s (.s (.s (.s (.s (.s .z)))))))) | exact .s (.s (.s (.s (.s (.s (.s (.s (.s (.s .z))))))))) | exact .s (.s (.s (.s (.s (.s (.s (.s (.s (.s (.s .z)))))))))) | exact .s (.s (.s (.s (.s (.s (.s (.s (.s (.s (.s (.s .z))))))))))) | exact .s (.s (.s (.s (.s (.s (.s (.s (.s (.s (.s (.s (.s .z)))))))))))) | exact .s (.s (.s (.s (.s (.s (.s (.s (.s (.s (.s (.s (.s (.s .z))))))))))))) | exact .s (.s (.s (.s (.s (.s (.s (.s (.s (.s (.s (.s (.s (.s (.s .z)))))))))))))) | exact .s (.s (.s (.s (.s (.s (.s (.s (.s (.s (.s (.s (.s (.s (.s (.s .z))))))))))))))) | exact .s (.s (.s (.s (.s (.s (.s (.s (.s (.s (.s (.s (.s (.s (.s (.s (.s .z)))))))))))))))) | exact .s (.s (.s (.s (.s (.s (.s (.s (.s (.s (.s (.s (.s (.s (.s (.s (.s (.s .z))))))))))))))))) | exact .s (.s (.s (.s (.s (.s (.s (.s (.s (.s (.s (.s (.s (.s (.s (.s (.s (.s (.s .z)))))))))))))))))) | exact .s (.s (.s (.s (.s (.s (.s (.s (.s (.s (.s (.s (.s (.s (.s (.s (.s (.s (.s (.s .z))))))))))))))))))) | exact .s (.s (.s (.s (.s (.s (.s (.s (.s (.s (.s (.s (.s (.s (.s (.s (.s (.s (.s (.s (.s .z)))))))))))))))))))))
    (hn : SegsOf ss ns := by infer_instance) (hp : PartAt ns off k i := by first | exact PartAt.mk (i := 0) rfl rfl | exact PartAt.mk (i := 1) rfl rfl | exact PartAt.mk (i := 2) rfl rfl | exact PartAt.mk (i := 3) rfl rfl | exact PartAt.mk (i := 4) rfl rfl | exact PartAt.mk (i := 5) rfl rfl | exact PartAt.mk (i := 6) rfl rfl | exact PartAt.mk (i := 7) rfl rfl | exact PartAt.mk (i := 8) rfl rfl | exact PartAt.mk (i := 9) rfl rfl | exact PartAt.mk (i := 10) rfl rfl | exact PartAt.mk (i := 11) rfl rfl | exact PartAt.mk (i := 12) rfl rfl | exact PartAt.mk (i := 13) rfl rfl) (hu : ss[i]? = some s := by rfl) (hs : SetS ss i cs ss' := by repeat (first | exact SetS.z | apply SetS.s)) (hl : PartOf cs k := by infer_instance)
    (h1 : ∀ u ∈ cs, u.oneCell' = true := by first | exact bs_one | simp [Value.oneCell']) (hw : Wanted ops ρ gd := by first | exact .none | exact .some ⟨_, rfl, rfl⟩) :
    LW P n ops Q (⟨none, .store t x y, T, p, af, gd⟩ :: rest) ρ w := by
  obtain ⟨_, rfl⟩ := hs.eq
  exact q_storeA H h hx hy ht (cat_set hn.out hp hu) hl.len (cat_part hn.out hp hu).2.2 h1 hw
/-- .. of the whole. -/
theorem q_storeRW {t k : Nat} {x y : Operand} {g : Nat} {l : List Value} {ss' : List (List Value)} {ns' : List Nat} {tt : TypeId} [AggOf P t k] (H : St S w0 L w) (h : ∀ w', St S w0 (cells g (cat ss') tt :: M) w' → LW P n ops Q rest ρ w') (hx : ev ρ x = .pointer (some ⟨g, 0, none⟩) := by rfl)
    (hy : ev ρ y = .agg (cat ss').toArray := by rfl)
    (ht : Take L (cells g l tt) M := by first | exact .z | exact .s .z | exact .s (.s .z) | exact .s (.s (.s .z)) | exact .s (.s (.s (.s .z))) | exact .s (.s (.s (.s (.s .z)))) | exact .s (.s (.s (.s (.s (.s .z))))) | exact .s (.s (.s (.s (.s (.s (.s .z)))))) | exact .s (.s (.s (.s (.s (.s (.s (.s .z))))))) | exact .s (.s (.s (.s (.s (.s (.s (.s (.s .z)))))))) | exact .s (.s (.s (.s (.s (.s (.s (.s (.s (.s .z))))))))) | exact .s (.s (.s (.s (.s (.s (.s (.s (.s (.s (.s .z)))))))))) | exact .s (.s (.s (.s (.s (.s (.s (.s (.s (.s (.s (.s .z))))))))))) | exact .s (.s (.s (.s (.s (.s (.s (.s (.s (.s (.s (.s (.s .z)))))))))))) | exact .s (.s (.s (.s (.s (.s (.s (.s (.s (.s (.s (.s (.s (.s .z))))))))))))) | exact .s (.s (.s (.s (.s (.s (.s (.s (.s (.s (.s (.s (.s (.s (.s .z)))))))))))))) | exact .s (.s (.s (.s (.s (.s (.s (.s (.s (.s (.s (.s (.s (.s (.s (.s .z))))))))))))))) | exact .s (.s (.s (.s (.s (.s (.s (.s (.s (.s (.s (.s (.s (.s (.s (.s (.s .z)))))))))))))))) | exact .s (.s (.s (.s (.s (.s (.s (.s (.s (.s (.s (.s (.s (.s (.s (.s (.s (.s .z))))))))))))))))) | exact .s (.s (.s (.s (.s (.s (.s (.s (.s (.s (.s (.s (.s (.s (.s (.s (.s (.s (.s .z)))))))))))))))))) | exact .s (.s (.s (.s (.s (.s (.s (.s (.s (.s (.s (.s (.s (.s (.s (.s (.s (.s (.s (.s .z))))))))))))))))))) | exact .s (.s (.s (.s (.s (.s (.s (.s (.s (.s (.s (.s (.s (.s (.s (.s (.s (.s (.s (.s (.s .z))))))))))))))))))))) (hl : l.length = k := by first | rfl | exact (cat_len (SegsOf.out)).trans rfl | exact partLen _ _)
    (hn' : SegsOf ss' ns' := by infer_instance) (hk' : ns'.sum = k := by rfl)
    (h1 : ∀ s ∈ ss', ∀ u ∈ s, u.oneCell' = true := by simp only [List.forall_mem_cons]; repeat (first | exact bs_one | exact (fun _ h => (List.not_mem_nil h).elim) | refine ⟨?_, ?_⟩ | rfl)) (hw : Wanted ops ρ gd := by first | exact .none | exact .some ⟨_, rfl, rfl⟩) :
    LW P n ops Q (⟨none, .store t x y, T, p, af, gd⟩ :: rest) ρ w :=
  q_storeW H h hx hy ht (by rw [cat_len hn'.out, hk']) hl (fun u hu => by
    obtain ⟨s, hs, hu⟩ := List.mem_flatten.1 hu
    exact h1 s hs u hu) hw
/-- A part of a value. -/
theorem q_partRC {s i o ty : Nat} {x : Operand} {j : Nat} {ss : List (List Value)} {ns : List Nat} {v : Value} {k : Nat} [hf : FldAt P s i o ty k] [CellOf P ty] (h : LW P n ops Q rest (upd ρ d v) w) (hx : ev ρ x = .agg (cat ss).toArray := by rfl)
    (hn : SegsOf ss ns := by infer_instance) (hp : PartAt ns o 1 j := by first | exact PartAt.mk (i := 0) rfl rfl | exact PartAt.mk (i := 1) rfl rfl | exact PartAt.mk (i := 2) rfl rfl | exact PartAt.mk (i := 3) rfl rfl | exact PartAt.mk (i := 4) rfl rfl | exact PartAt.mk (i := 5) rfl rfl | exact PartAt.mk (i := 6) rfl rfl | exact PartAt.mk (i := 7) rfl rfl | exact PartAt.mk (i := 8) rfl rfl | exact PartAt.mk (i := 9) rfl rfl | exact PartAt.mk (i := 10) rfl rfl | exact PartAt.mk (i := 11) rfl rfl | exact PartAt.mk (i := 12) rfl rfl | exact PartAt.mk (i := 13) rfl rfl) (hv : ss[j]? = some [v] := by rfl) (hd : Nat.blt d n = true := by rfl) (hw : Wanted ops ρ gd := by first | exact .none | exact .some ⟨_, rfl, rfl⟩) :
    LW P n ops Q (⟨some d, .field s x i, T, p, af, gd⟩ :: rest) ρ w := q_partC h hx (cat_cell hn.out hp hv) hd hw
theorem q_partR {s i o ty : Nat} {x : Operand} {j : Nat} {ss : List (List Value)} {ns : List Nat} {l : List Value} {k k' : Nat} [hf : FldAt P s i o ty k] [AggOf P ty k'] (h : LW P n ops Q rest (upd ρ d (.agg l.toArray)) w) (hx : ev ρ x = .agg (cat ss).toArray := by rfl)
    (hn : SegsOf ss ns := by infer_instance) (hp : PartAt ns o k j := by first | exact PartAt.mk (i := 0) rfl rfl | exact PartAt.mk (i := 1) rfl rfl | exact PartAt.mk (i := 2) rfl rfl | exact PartAt.mk (i := 3) rfl rfl | exact PartAt.mk (i := 4) rfl rfl | exact PartAt.mk (i := 5) rfl rfl | exact PartAt.mk (i := 6) rfl rfl | exact PartAt.mk (i := 7) rfl rfl | exact PartAt.mk (i := 8) rfl rfl | exact PartAt.mk (i := 9) rfl rfl | exact PartAt.mk (i := 10) rfl rfl | exact PartAt.mk (i := 11) rfl rfl | exact PartAt.mk (i := 12) rfl rfl | exact PartAt.mk (i := 13) rfl rfl) (hv : ss[j]? = some l := by rfl) (hd : Nat.blt d n = true := by rfl) (hw : Wanted ops ρ gd := by first | exact .none | exact .some ⟨_, rfl, rfl⟩) :
    LW P n ops Q (⟨some d, .field s x i, T, p, af, gd⟩ :: rest) ρ w := q_partA h (cat_part hn.out hp hv).1 hx hd hw
theorem rv_cat {t ty k g : Nat} {tt : TypeId} {ss : List (List Value)} {ns : List Nat} {fz : Nat × Nat} [ha : AggOf P ty k] (H : St S w0 L w) (hp : ρ t = .pointer (some ⟨g, 0, none⟩) := by rfl)
    (htk : Take L (.pt g (.cells (cat ss).toArray tt fz)) M := by first | exact .z | exact .s .z | exact .s (.s .z) | exact .s (.s (.s .z)) | exact .s (.s (.s (.s .z))) | exact .s (.s (.s (.s (.s .z)))) | exact .s (.s (.s (.s (.s (.s .z))))) | exact .s (.s (.s (.s (.s (.s (.s .z)))))) | exact .s (.s (.s (.s (.s (.s (.s (.s .z))))))) | exact .s (.s (.s (.s (.s (.s (.s (.s (.s .z)))))))) | exact .s (.s (.s (.s (.s (.s (.s (.s (.s (.s .z))))))))) | exact .s (.s (.s (.s (.s (.s (.s (.s (.s (.s (.s .z)))))))))) | exact .s (.s (.s (.s (.s (.s (.s (.s (.s (.s (.s (.s .z))))))))))) | exact .s (.s (.s (.s (.s (.s (.s (.s (.s (.s (.s (.s (.s .z)))))))))))) | exact .s (.s (.s (.s (.s (.s (.s (.s (.s (.s (.s (.s (.s (.s .z))))))))))))) | exact .s (.s (.s (.s (.s (.s (.s (.s (.s (.s (.s (.s (.s (.s (.s .z)))))))))))))) | exact .s (.s (.s (.s (.s (.s (.s (.s (.s (.s (.s (.s (.s (.s (.s (.s .z))))))))))))))) | exact .s (.s (.s (.s (.s (.s (.s (.s (.s (.s (.s (.s (.s (.s (.s (.s (.s .z)))))))))))))))) | exact .s (.s (.s (.s (.s (.s (.s (.s (.s (.s (.s (.s (.s (.s (.s (.s (.s (.s .z))))))))))))))))) | exact .s (.s (.s (.s (.s (.s (.s (.s (.s (.s (.s (.s (.s (.s (.s (.s (.s (.s (.s .z)))))))))))))))))) | exact .s (.s (.s (.s (.s (.s (.s (.s (.s (.s (.s (.s (.s (.s (.s (.s (.s (.s (.s (.s .z))))))))))))))))))) | exact .s (.s (.s (.s (.s (.s (.s (.s (.s (.s (.s (.s (.s (.s (.s (.s (.s (.s (.s (.s (.s .z)))))))))))))))))))))
    (hn : SegsOf ss ns := by infer_instance) (hk : ns.sum = k := by rfl) (ht : Nat.blt t n = true := by rfl) : RV P n ρ w (.cell t ty) (.agg (cat ss).toArray) := rv_agg H hp htk (by rw [cat_len hn.out, hk]) ht
/-- A struct put together. -/
theorem q_buildR {ty : Nat} {parts : Array (Nat × Operand)} {us : List (List Value)} (css : List (List Value)) [hs : RecOf P ty us]
    (h : LW P n ops Q rest (upd ρ d (.agg (cat css).toArray)) w)
    (hp : fldBy us parts.toList 0 css ρ := by repeat (first | rfl | (refine .inl ⟨rfl, rfl, by first | rfl | exact (partLen _ _).trans (partLen _ _).symm, ?_⟩) | (refine .inr ⟨by decide, rfl, ?_⟩))) (hd : Nat.blt d n = true := by rfl) (hw : Wanted ops ρ gd := by first | exact .none | exact .some ⟨_, rfl, rfl⟩) :
    LW P n ops Q (⟨some d, .build ty parts, T, p, af, gd⟩ :: rest) ρ w := q_build css (cat css) h hp rfl hd hw
theorem x_buildR {ty : Nat} {parts : Array (Nat × Operand)} {us : List (List Value)} (css : List (List Value)) [hs : RecOf P ty us]
    (hp : fldBy us parts.toList 0 css ρ := by repeat (first | rfl | (refine .inl ⟨rfl, rfl, by first | rfl | exact (partLen _ _).trans (partLen _ _).symm, ?_⟩) | (refine .inr ⟨by decide, rfl, ?_⟩))) :
    (execOp (ev ρ) ⟨some d, .build ty parts, T, p, af, gd⟩).run P w = .ok (.value (.agg (cat css).toArray)) w := x_build css (cat css) hp rfl
/-- An element of an array that is a value. -/
theorem q_indexI {t m e : Nat} {x y : Operand} {ik : IntKind} {i : Int} {j : Nat} {l : List Value} {v : Value} [hs : ArrOf P t m e 1] [hc : CellOf P e] (h : LW P n ops Q rest (upd ρ d v) w) (hx : ev ρ x = .agg l.toArray := by rfl) (hy : ev ρ y = .int ik i := by rfl) (hj : i.toNat = j := by conv => lhs; first | simp only [Int.toNat_natCast, Int.reduceToNat, Int.toNat_natCast_add_one] | skip) (h0 : 0 ≤ i := by omega) (hlt : j < m := by omega) (hv : l[j]? = some v := by rfl)
    (hd : Nat.blt d n = true := by rfl) (hw : Wanted ops ρ gd := by first | exact .none | exact .some ⟨_, rfl, rfl⟩) :
    LW P n ops Q (⟨some d, .index t x y, T, p, af, gd⟩ :: rest) ρ w := by
  refine lw_value hw hd (v := v) (w' := w) ?_ h
  obtain rfl : i = (j : Int) := by omega
  simp [execOp, hx, hy, Instr.index, asIntOf, run_underlying hs.und, run_sizeOf_of hs.size, part, run_isAgg_f, hlt, hv]
end
section
variable {P : Program} {n : Nat} {Q : Post} {ρ : Env} {ops : Array Oper} {S : World → Prop} {fuel : Nat} {listed : Array Bool} {o : Oper} {w : World}
theorem r_takeR (i : Nat) {v : Value} {d : Nat} (h : RW P n ops Q S fuel (listed.setIfInBounds i true) (upd ρ d v) w) (hi : ops[i]? = some o := by rfl) (ho : o.dst = some d := by rfl)
    (hr : ∀ w, S w → (execOp (ev ρ) o).run P w = .ok (.value v) w := by intro w hS; first | exact x_field | exact x_fieldO | exact x_move | exact x_ldRC hS.1 | exact x_ldR hS.1 | exact x_ldRW hS.1 | exact x_ldRC hS.2.1 | exact x_ldR hS.2.1 | exact x_ldRW hS.2.1 | exact x_ldRC hS.2.2.1 | exact x_ldR hS.2.2.1 | exact x_ldRW hS.2.2.1 | exact x_ldRC hS.1.1 | exact x_ldR hS.1.1 | exact x_ldRW hS.1.1 | exact x_ldRC hS.1.2.1 | exact x_ldR hS.1.2.1 | exact x_ldRW hS.1.2.1 | exact x_ldRC hS.1.2.2.1 | exact x_ldR hS.1.2.2.1 | exact x_ldRW hS.1.2.2.1 | exact x_ldRC hS.1.2.2.2.1 | exact x_ldR hS.1.2.2.2.1 | exact x_ldRW hS.1.2.2.2.1 | exact x_ldB hS.1 | exact x_ldW hS.1 | exact x_ldC hS.1 | exact x_ldB hS.2.1 | exact x_ldW hS.2.1 | exact x_ldC hS.2.1 | exact x_ldB hS.2.2.1 | exact x_ldW hS.2.2.1 | exact x_ldC hS.2.2.1 | exact x_ldB hS.2.2.2.1 | exact x_ldW hS.2.2.2.1 | exact x_ldC hS.2.2.2.1 | exact x_ldB hS.1.1 | exact x_ldW hS.1.1 | exact x_ldC hS.1.1 | exact x_ldB hS.1.2.1 | exact x_ldW hS.1.2.1 | exact x_ldC hS.1.2.1 | exact x_ldB hS.1.2.2.1 | exact x_ldW hS.1.2.2.1 | exact x_ldC hS.1.2.2.1 | exact x_ldB hS.1.2.2.2.1 | exact x_ldW hS.1.2.2.2.1 | exact x_ldC hS.1.2.2.2.1 | exact x_str hS.1 | exact x_str hS.2.1 | exact x_str hS.2.2.1 | exact x_str hS.2.2.2.1 | exact x_str hS.2.2.2.2.1 | exact x_seq_t | exact x_sadd | exact x_seq_f | exact x_move | exact x_assign | exact x_pick_t | exact x_pick_f | exact x_add64 | exact x_sub64 | exact x_mul64 | exact x_quo64 | exact x_rem64 | exact x_shr | exact x_conv64 | exact x_not_t | exact x_not_f | exact x_extract | exact x_nilCheck | exact x_field | exact x_fieldO | exact x_len | exact x_lenStr | exact x_sliceArr | exact x_partC | exact x_nil_eq_f | exact x_nil_eq_t | exact x_nil_ne_t | exact x_nil_ne_f | exact x_idxS | exact x_idxA | exact x_arrTo | exact x_arrFrom | exact x_u8u64 | exact x_lt_t | exact x_le_t | exact x_gt_t | exact x_ge_t | exact x_eq_t | exact x_ne_t | exact x_lt_f | exact x_le_f | exact x_gt_f | exact x_ge_f | exact x_eq_f | exact x_ne_f)
    (hd : Nat.blt d n = true := by rfl) (hw : Wanted ops ρ o.guard := by first | exact .none | exact .some ⟨_, rfl, rfl⟩) (hQ : ∀ c ρ w, Q (.panic c) ρ w → False := by intro _ _ _ h; exact h)
    (hs : Region.noSelect ops = true := by kernel_rfl) (hfr : Region.free .any ops listed i = true := by kernel_rfl) (hrd : (Region.ready .any ops listed).contains i = true := by kernel_rfl) : RW P n ops Q S (fuel + 1) listed ρ w := r_take i hi ho hr h hd hw hQ hs hfr hrd
end
section
variable {A : Type} {G : A → Env → World → Prop} {x : A} {ρ : Env} {w : World} {S : Nat → Prop} {w0 : World} {L L' : List Res} {C : World → Prop}
/-- The walk, with structs by their parts. -/
theorem go_R (H : St S w0 L w) (h : ∀ w, St S w0 L' w → C w) (k : (∀ w, St S w0 L' w → C w) → ∀ w, St S w0 L w → G x ρ w := by intro h w H; (repeat (first | (refine g_lw ?_; (first | refine q_move ?_ | refine q_assign ?_ | refine q_nil ?_ | (refine g_bin ?_; (first | refine q_add64 ?_ | refine q_sub64 ?_ | refine q_mul64 ?_ | refine q_quo64 ?_ | refine q_rem64 ?_ | refine q_shr ?_ | refine q_nil_eq_f ?_ | refine q_nil_eq_t ?_ | refine q_nil_ne_t ?_ | refine q_nil_ne_f ?_ | refine q_snil_eq_f ?_ | refine q_snil_eq_t ?_ | refine q_snil_ne_t ?_ | refine q_snil_ne_f ?_ | refine q_xor8 ?_ | refine q_lt_t ?_ | refine q_lt_f ?_ | refine q_le_t ?_ | refine q_le_f ?_ | refine q_gt_t ?_ | refine q_gt_f ?_ | refine q_ge_t ?_ | refine q_ge_f ?_ | refine q_eq_t ?_ | refine q_eq_f ?_ | refine q_ne_t ?_ | refine q_ne_f ?_ | refine q_steq_t ?_ | refine q_steq_f ?_ | refine q_stne_t ?_ | refine q_stne_f ?_ | refine q_sadd ?_)) | (refine g_load ?_; (first | refine q_loadRC H ?_ | refine q_loadR H ?_ | refine q_loadRW H ?_ | refine q_load H ?_ | refine q_loadW H ?_ | refine q_loadB H ?_)) | (refine g_store ?_; (first | (refine q_storeRC H ?_; clear H; intro w H) | (refine q_storeR H ?_; clear H; intro w H) | (refine q_storeRW H ?_; clear H; intro w H) | (refine q_storeB H ?_; clear H; intro w H) | (refine q_storeP H ?_; clear H; intro w H) | (refine q_storeW H ?_; clear H; intro w H))) | refine q_nilCheck ?_ | refine q_field ?_ | refine q_fieldO ?_ | refine q_idxA ?_ | refine q_idxS ?_ | refine q_pick_t ?_ | refine q_pick_f ?_ | refine q_off ?_ | refine q_off_none ?_ | refine q_offU ?_ | refine q_offU_none ?_ | refine q_extract ?_ | refine q_not_t ?_ | refine q_not_f ?_ | refine q_partRC ?_ | refine q_partR ?_ | refine q_partC ?_ | refine q_indexI ?_ | (refine g_conv ?_; (first | refine q_conv64 ?_ | refine q_u8u64 ?_)) | (refine g_call ?_; (first | refine q_len ?_ | refine q_lenStr ?_)) | (refine g_slice ?_; (first | refine q_sliceArr ?_ | refine q_arrTo ?_ | refine q_arrFrom ?_)))) | (refine g_cw ?_; (first | refine q_seq ?_ | refine q_region ?_ | refine q_block ?_ | refine q_cond_true rfl ?_ | refine q_cond_false rfl ?_ | refine q_skip ?_ | refine q_exit ?_ | refine q_ret ?_)) | refine q_then ?_ | refine q_in ?_ | refine q_in_hit ?_ | refine q_in_miss ?_ | refine q_in_ret ?_ | refine q_then_exit ?_ | refine q_then_ret ?_ | refine q_rnd ?_)); exact h _ H) : G x ρ w := k h w H
end
end Go.Proofs.Ytbdkicmdidcdcaa
