/-
  Slices put side by side; new blocks out of contracts; numbers of other kinds. Plain laws over any program. Constant bytes, strings held against each other, on a frame of slots. Plain laws over any program. Structs put together; slices that are or are not nil. Plain laws over any program. Maps; structs and arrays that are compared; what they hold. Plain laws over any program. Strings put together; what a drawn region may hold: blocks, and bytes that are read. Plain laws over any program. Contracts with slices of bytes that are read alone. Plain laws over any program. Arrays of bytes put together. Plain laws over any program. Steps of drawn regions in few words. Plain laws over any program.
-/
import Derived.Test.YtbdkicmdidcdcaaZH
import Derived.Laws.Strings
import Derived.Laws.Concat
import Derived.Laws.Tables
import Derived.WalkSpells
import Derived.DeepKeys4
import Derived.Maps.Keyed
namespace Go.Proofs.Ytbdkicmdidcdcaa
open Go.RowKit

section
variable {P : Program} {n : Nat} {Q : Post} {ρ : Env} {w : World} {ops : Array Oper} {rest : List Oper} {d : Nat} {T : TypeId} {p : String} {af : Array Edge} {gd : Option (Nat × Bool)}
variable {S : Nat → Prop} {w0 : World} {L M M' : List Res}

theorem St.newBlk {w' : World} {G : Nat} {o : Obj} (H : St S w0 L w) (hn : No w w') (hG : w'.heap[G]? = some o) (hs : w.heap.size ≤ G) : St S w0 (.pt G o :: L) w' :=
  H.new (M := [.pt G o]) (G := fun k => k = G) hn (Sep.one ⟨fun _ => Iff.rfl, hG⟩) fun k e => by omega
theorem St.newSl {w' : World} {v : Value} {s m : Nat} {xs : List Value} (H : St S w0 L w) (hn : No w w') (hv : Ow 0 s w' v m xs) (hs : ∀ k, v.ownBlock = some k → w.heap.size ≤ k) : St S w0 (.sl s v m xs :: L) w' :=
  H.new (M := [.sl s v m xs]) (G := fun k => v.ownBlock = some k) hn (Sep.one ⟨fun _ => Iff.rfl, hv⟩) hs
theorem St.newRd {w' : World} {v : Value} {s m : Nat} {xs : List Value} (H : St S w0 L w) (hn : No w w') (hv : Rd s w' v m xs) (hs : ∀ k, v.ownBlock = some k → w.heap.size ≤ k) : St S w0 (.rd s v m xs :: L) w' :=
  H.new (M := [.rd s v m xs]) (G := fun k => v.ownBlock = some k) hn (Sep.one ⟨fun _ => Iff.rfl, hv⟩) hs

theorem St.mono {S' : Nat → Prop} (H : St S w0 L w) (h : ∀ k, S k → S' k) : St S' w0 L w := let ⟨F, a, b, c⟩ := H; ⟨F, a, b.mono fun k _ => h k, fun k hk => (c k hk).imp (h k) id⟩
theorem Tri.pure {f : FuncId} {args : List Value} {post : Value → List Res → Prop} (h : St (fun _ => False) w [] w → Calls P f args.toArray w fun e w' => ∃ v L, e = .returned v ∧ post v L ∧ St (fun _ => False) w L w') : Tri P f args [] w post := fun _F _ =>
  (h (St.nil _ w)).mono fun _ _ ⟨v, L, a, b, c⟩ => ⟨v, L, a, b, c.mono fun _ x => x.elim⟩
/-- What a buildSlice puts side by side: each part of k cells, in order. -/
def sideBy (k : Nat) : List (Nat × Operand) → Nat → List (List Value) → Env → Prop
  | [], _, [], _ => True
  | (i, x) :: ps, j, cs :: css, ρ => i = j ∧ (ev ρ x).cells = cs.toArray ∧ cs.length = k ∧ sideBy k ps (j + 1) css ρ
  | _, _, _, _ => False
theorem set_put (A B : List Value) (c u : Value) : (A ++ u :: B).toArray.setIfInBounds A.length c = (A ++ c :: B).toArray := by simp
theorem fold_put : ∀ (cs us A B : List Value) (o j : Nat), us.length = cs.length → A.length = o + j → (cs.zipIdx j).foldl (fun (a : Array Value) (x : Value × Nat) => a.setIfInBounds (o + x.2) x.1) (A ++ us ++ B).toArray = (A ++ cs ++ B).toArray
  | [], us, A, B, o, j, h, _ => by
    have : us = [] := List.eq_nil_of_length_eq_zero (by simpa using h)
    subst this; rfl
  | c :: cs, [], A, B, o, j, h, _ => by simp at h
  | c :: cs, u :: us, A, B, o, j, h, hA => by
    simp only [List.zipIdx_cons, List.foldl_cons]
    have h1 : (A ++ (u :: us) ++ B).toArray.setIfInBounds (o + j) c = ((A ++ [c]) ++ us ++ B).toArray := by
      rw [← hA, List.append_assoc, List.cons_append, set_put]
      simp
    rw [h1, fold_put cs us (A ++ [c]) B o (j + 1) (by simpa using h) (by simp; omega)]
    simp
theorem fill_side (k : Nat) : ∀ (ps : List (Nat × Operand)) (j : Nat) (css : List (List Value)) (ρ : Env) (A B : List Value), sideBy k ps j css ρ → A.length = j * k → B.length = ps.length * k →
    Instr.fill (fun i => some (i * k, k)) (A ++ B).toArray (ps.map fun (i, x) => (i, ev ρ x)) = some (A ++ css.flatten).toArray
  | [], _, [], _, A, B, _, _, hB => by
    have : B = [] := List.eq_nil_of_length_eq_zero (by simpa using hB)
    subst this; simp [Instr.fill]
  | [], _, _ :: _, _, _, _, h, _, _ => h.elim
  | _ :: _, _, [], _, _, _, h, _, _ => h.elim
  | (i, x) :: ps, j, cs :: css, ρ, A, B, h, hA, hB => by
    obtain ⟨rfl, h1, h2, h3⟩ := h
    have hB' : B.length = ps.length * k + k := by rw [hB, List.length_cons, Nat.succ_mul]
    have hBs : B = B.take k ++ B.drop k := (List.take_append_drop k B).symm
    simp only [List.map_cons, Instr.fill, h1, List.size_toArray, h2]
    have c1 : ¬ (k ≠ k ∨ i * k + k > (A ++ B).length) := by rw [List.length_append]; omega
    have c2 : (decide (k ≠ k) || decide (i * k + k > (A ++ B).length)) = false := by simp; omega
    have hf : (cs.toArray.zipIdx.foldl (fun (cs : Array Value) (x : Value × Nat) => cs.setIfInBounds (i * k + x.2) x.1) (A ++ B).toArray) = ((A ++ cs) ++ B.drop k).toArray := by
      have := fold_put cs (B.take k) A (B.drop k) (i * k) 0 (by rw [List.length_take]; omega) (by omega)
      rw [List.append_assoc, ← hBs] at this
      rw [← this]
      simp
    have ih := fill_side k ps (i + 1) css ρ (A ++ cs) (B.drop k) h3 (by rw [List.length_append, h2, Nat.succ_mul]; omega) (by rw [List.length_drop]; omega)
    rw [if_neg (by simpa using c1)]
    have e : ∀ a b : Array Value, a = b → Instr.fill (fun i => some (i * k, k)) a (ps.map fun (i, x) => (i, ev ρ x)) = Instr.fill (fun i => some (i * k, k)) b (ps.map fun (i, x) => (i, ev ρ x)) := fun a b e => by rw [e]
    refine (e _ _ hf).trans ?_
    rw [ih]
    simp
theorem q_side {ty e k b len : Nat} {z : List Value} {parts : Array (Nat × Operand)} (css : List (List Value)) [hs : SlOf P ty e z k b] (H : St S w0 L w) (hp : sideBy k parts.toList 0 css ρ) (h : ∀ g w', St S w0 (cells g css.flatten e :: L) w' → LW P n ops Q rest (upd ρ d (.slice (some ⟨g, 0, none⟩) len len)) w')
    (hlen : parts.size = len := by rfl) (h0 : 0 < len * k := by decide) (h24 : len * k ≤ 16777216 := by decide) (hd : Nat.blt d n = true := by rfl) (hw : Wanted ops ρ gd := by first | exact .none | exact .some ⟨_, rfl, rfl⟩) :
    LW P n ops Q (⟨some d, .buildSlice ty len parts, T, p, af, gd⟩ :: rest) ρ w := by
  refine q_buildSlice H h ?_ h0 h24 hd hw
  have hsz : ((Array.range (len * k)).map (z.toArray[· % z.toArray.size]!)).toList.length = len * k := by simp
  have := fill_side k parts.toList 0 css ρ [] ((Array.range (len * k)).map (z.toArray[· % z.toArray.size]!)).toList hp (by simp) (by rw [hsz, ← hlen]; simp)
  rw [List.nil_append, Array.toArray_toList, List.nil_append] at this
  exact this
theorem q_side1 {ty e b : Nat} {z : List Value} {x0 : Operand} {v0 : Value} [hs : SlOf P ty e z 1 b] (H : St S w0 L w) (h : ∀ g w', St S w0 (cells g [v0] e :: L) w' → LW P n ops Q rest (upd ρ d (.slice (some ⟨g, 0, none⟩) 1 1)) w')
    (hx0 : ev ρ x0 = v0 := by conv => lhs; whnf) (hc0 : v0.cells = #[v0] := by rfl) (hd : Nat.blt d n = true := by rfl) (hw : Wanted ops ρ gd := by first | exact .none | exact .some ⟨_, rfl, rfl⟩) :
    LW P n ops Q (⟨some d, .buildSlice ty 1 #[(0, x0)], T, p, af, gd⟩ :: rest) ρ w :=
  q_side (k := 1) [[v0]] H ⟨rfl, by rw [hx0, hc0], rfl, trivial⟩ h rfl (by decide) (by decide) hd hw
theorem q_side2 {ty e b : Nat} {z : List Value} {x0 x1 : Operand} {v0 v1 : Value} [hs : SlOf P ty e z 1 b] (H : St S w0 L w) (h : ∀ g w', St S w0 (cells g [v0, v1] e :: L) w' → LW P n ops Q rest (upd ρ d (.slice (some ⟨g, 0, none⟩) 2 2)) w')
    (hx0 : ev ρ x0 = v0 := by conv => lhs; whnf) (hx1 : ev ρ x1 = v1 := by conv => lhs; whnf) (hc0 : v0.cells = #[v0] := by rfl) (hc1 : v1.cells = #[v1] := by rfl) (hd : Nat.blt d n = true := by rfl) (hw : Wanted ops ρ gd := by first | exact .none | exact .some ⟨_, rfl, rfl⟩) :
    LW P n ops Q (⟨some d, .buildSlice ty 2 #[(0, x0), (1, x1)], T, p, af, gd⟩ :: rest) ρ w :=
  q_side (k := 1) [[v0], [v1]] H ⟨rfl, by rw [hx0, hc0], rfl, ⟨rfl, by rw [hx1, hc1], rfl, trivial⟩⟩ h rfl (by decide) (by decide) hd hw
theorem q_side3 {ty e b : Nat} {z : List Value} {x0 x1 x2 : Operand} {v0 v1 v2 : Value} [hs : SlOf P ty e z 1 b] (H : St S w0 L w) (h : ∀ g w', St S w0 (cells g [v0, v1, v2] e :: L) w' → LW P n ops Q rest (upd ρ d (.slice (some ⟨g, 0, none⟩) 3 3)) w')
    (hx0 : ev ρ x0 = v0 := by conv => lhs; whnf) (hx1 : ev ρ x1 = v1 := by conv => lhs; whnf) (hx2 : ev ρ x2 = v2 := by conv => lhs; whnf) (hc0 : v0.cells = #[v0] := by rfl) (hc1 : v1.cells = #[v1] := by rfl) (hc2 : v2.cells = #[v2] := by rfl) (hd : Nat.blt d n = true := by rfl) (hw : Wanted ops ρ gd := by first | exact .none | exact .some ⟨_, rfl, rfl⟩) :
    LW P n ops Q (⟨some d, .buildSlice ty 3 #[(0, x0), (1, x1), (2, x2)], T, p, af, gd⟩ :: rest) ρ w :=
  q_side (k := 1) [[v0], [v1], [v2]] H ⟨rfl, by rw [hx0, hc0], rfl, ⟨rfl, by rw [hx1, hc1], rfl, ⟨rfl, by rw [hx2, hc2], rfl, trivial⟩⟩⟩ h rfl (by decide) (by decide) hd hw
theorem q_side4 {ty e b : Nat} {z : List Value} {x0 x1 x2 x3 : Operand} {v0 v1 v2 v3 : Value} [hs : SlOf P ty e z 1 b] (H : St S w0 L w) (h : ∀ g w', St S w0 (cells g [v0, v1, v2, v3] e :: L) w' → LW P n ops Q rest (upd ρ d (.slice (some ⟨g, 0, none⟩) 4 4)) w')
    (hx0 : ev ρ x0 = v0 := by conv => lhs; whnf) (hx1 : ev ρ x1 = v1 := by conv => lhs; whnf) (hx2 : ev ρ x2 = v2 := by conv => lhs; whnf) (hx3 : ev ρ x3 = v3 := by conv => lhs; whnf) (hc0 : v0.cells = #[v0] := by rfl) (hc1 : v1.cells = #[v1] := by rfl) (hc2 : v2.cells = #[v2] := by rfl) (hc3 : v3.cells = #[v3] := by rfl) (hd : Nat.blt d n = true := by rfl) (hw : Wanted ops ρ gd := by first | exact .none | exact .some ⟨_, rfl, rfl⟩) :
    LW P n ops Q (⟨some d, .buildSlice ty 4 #[(0, x0), (1, x1), (2, x2), (3, x3)], T, p, af, gd⟩ :: rest) ρ w :=
  q_side (k := 1) [[v0], [v1], [v2], [v3]] H ⟨rfl, by rw [hx0, hc0], rfl, ⟨rfl, by rw [hx1, hc1], rfl, ⟨rfl, by rw [hx2, hc2], rfl, ⟨rfl, by rw [hx3, hc3], rfl, trivial⟩⟩⟩⟩ h rfl (by decide) (by decide) hd hw
theorem q_side5 {ty e b : Nat} {z : List Value} {x0 x1 x2 x3 x4 : Operand} {v0 v1 v2 v3 v4 : Value} [hs : SlOf P ty e z 1 b] (H : St S w0 L w) (h : ∀ g w', St S w0 (cells g [v0, v1, v2, v3, v4] e :: L) w' → LW P n ops Q rest (upd ρ d (.slice (some ⟨g, 0, none⟩) 5 5)) w')
    (hx0 : ev ρ x0 = v0 := by conv => lhs; whnf) (hx1 : ev ρ x1 = v1 := by conv => lhs; whnf) (hx2 : ev ρ x2 = v2 := by conv => lhs; whnf) (hx3 : ev ρ x3 = v3 := by conv => lhs; whnf) (hx4 : ev ρ x4 = v4 := by conv => lhs; whnf) (hc0 : v0.cells = #[v0] := by rfl) (hc1 : v1.cells = #[v1] := by rfl) (hc2 : v2.cells = #[v2] := by rfl) (hc3 : v3.cells = #[v3] := by rfl) (hc4 : v4.cells = #[v4] := by rfl) (hd : Nat.blt d n = true := by rfl) (hw : Wanted ops ρ gd := by first | exact .none | exact .some ⟨_, rfl, rfl⟩) :
    LW P n ops Q (⟨some d, .buildSlice ty 5 #[(0, x0), (1, x1), (2, x2), (3, x3), (4, x4)], T, p, af, gd⟩ :: rest) ρ w :=
  q_side (k := 1) [[v0], [v1], [v2], [v3], [v4]] H ⟨rfl, by rw [hx0, hc0], rfl, ⟨rfl, by rw [hx1, hc1], rfl, ⟨rfl, by rw [hx2, hc2], rfl, ⟨rfl, by rw [hx3, hc3], rfl, ⟨rfl, by rw [hx4, hc4], rfl, trivial⟩⟩⟩⟩⟩ h rfl (by decide) (by decide) hd hw
theorem q_side6 {ty e b : Nat} {z : List Value} {x0 x1 x2 x3 x4 x5 : Operand} {v0 v1 v2 v3 v4 v5 : Value} [hs : SlOf P ty e z 1 b] (H : St S w0 L w) (h : ∀ g w', St S w0 (cells g [v0, v1, v2, v3, v4, v5] e :: L) w' → LW P n ops Q rest (upd ρ d (.slice (some ⟨g, 0, none⟩) 6 6)) w')
    (hx0 : ev ρ x0 = v0 := by conv => lhs; whnf) (hx1 : ev ρ x1 = v1 := by conv => lhs; whnf) (hx2 : ev ρ x2 = v2 := by conv => lhs; whnf) (hx3 : ev ρ x3 = v3 := by conv => lhs; whnf) (hx4 : ev ρ x4 = v4 := by conv => lhs; whnf) (hx5 : ev ρ x5 = v5 := by conv => lhs; whnf) (hc0 : v0.cells = #[v0] := by rfl) (hc1 : v1.cells = #[v1] := by rfl) (hc2 : v2.cells = #[v2] := by rfl) (hc3 : v3.cells = #[v3] := by rfl) (hc4 : v4.cells = #[v4] := by rfl) (hc5 : v5.cells = #[v5] := by rfl) (hd : Nat.blt d n = true := by rfl) (hw : Wanted ops ρ gd := by first | exact .none | exact .some ⟨_, rfl, rfl⟩) :
    LW P n ops Q (⟨some d, .buildSlice ty 6 #[(0, x0), (1, x1), (2, x2), (3, x3), (4, x4), (5, x5)], T, p, af, gd⟩ :: rest) ρ w :=
  q_side (k := 1) [[v0], [v1], [v2], [v3], [v4], [v5]] H ⟨rfl, by rw [hx0, hc0], rfl, ⟨rfl, by rw [hx1, hc1], rfl, ⟨rfl, by rw [hx2, hc2], rfl, ⟨rfl, by rw [hx3, hc3], rfl, ⟨rfl, by rw [hx4, hc4], rfl, ⟨rfl, by rw [hx5, hc5], rfl, trivial⟩⟩⟩⟩⟩⟩ h rfl (by decide) (by decide) hd hw
theorem q_side7 {ty e b : Nat} {z : List Value} {x0 x1 x2 x3 x4 x5 x6 : Operand} {v0 v1 v2 v3 v4 v5 v6 : Value} [hs : SlOf P ty e z 1 b] (H : St S w0 L w) (h : ∀ g w', St S w0 (cells g [v0, v1, v2, v3, v4, v5, v6] e :: L) w' → LW P n ops Q rest (upd ρ d (.slice (some ⟨g, 0, none⟩) 7 7)) w')
    (hx0 : ev ρ x0 = v0 := by conv => lhs; whnf) (hx1 : ev ρ x1 = v1 := by conv => lhs; whnf) (hx2 : ev ρ x2 = v2 := by conv => lhs; whnf) (hx3 : ev ρ x3 = v3 := by conv => lhs; whnf) (hx4 : ev ρ x4 = v4 := by conv => lhs; whnf) (hx5 : ev ρ x5 = v5 := by conv => lhs; whnf) (hx6 : ev ρ x6 = v6 := by conv => lhs; whnf) (hc0 : v0.cells = #[v0] := by rfl) (hc1 : v1.cells = #[v1] := by rfl) (hc2 : v2.cells = #[v2] := by rfl) (hc3 : v3.cells = #[v3] := by rfl) (hc4 : v4.cells = #[v4] := by rfl) (hc5 : v5.cells = #[v5] := by rfl) (hc6 : v6.cells = #[v6] := by rfl) (hd : Nat.blt d n = true := by rfl) (hw : Wanted ops ρ gd := by first | exact .none | exact .some ⟨_, rfl, rfl⟩) :
    LW P n ops Q (⟨some d, .buildSlice ty 7 #[(0, x0), (1, x1), (2, x2), (3, x3), (4, x4), (5, x5), (6, x6)], T, p, af, gd⟩ :: rest) ρ w :=
  q_side (k := 1) [[v0], [v1], [v2], [v3], [v4], [v5], [v6]] H ⟨rfl, by rw [hx0, hc0], rfl, ⟨rfl, by rw [hx1, hc1], rfl, ⟨rfl, by rw [hx2, hc2], rfl, ⟨rfl, by rw [hx3, hc3], rfl, ⟨rfl, by rw [hx4, hc4], rfl, ⟨rfl, by rw [hx5, hc5], rfl, ⟨rfl, by rw [hx6, hc6], rfl, trivial⟩⟩⟩⟩⟩⟩⟩ h rfl (by decide) (by decide) hd hw
theorem q_side8 {ty e b : Nat} {z : List Value} {x0 x1 x2 x3 x4 x5 x6 x7 : Operand} {v0 v1 v2 v3 v4 v5 v6 v7 : Value} [hs : SlOf P ty e z 1 b] (H : St S w0 L w) (h : ∀ g w', St S w0 (cells g [v0, v1, v2, v3, v4, v5, v6, v7] e :: L) w' → LW P n ops Q rest (upd ρ d (.slice (some ⟨g, 0, none⟩) 8 8)) w')
    (hx0 : ev ρ x0 = v0 := by conv => lhs; whnf) (hx1 : ev ρ x1 = v1 := by conv => lhs; whnf) (hx2 : ev ρ x2 = v2 := by conv => lhs; whnf) (hx3 : ev ρ x3 = v3 := by conv => lhs; whnf) (hx4 : ev ρ x4 = v4 := by conv => lhs; whnf) (hx5 : ev ρ x5 = v5 := by conv => lhs; whnf) (hx6 : ev ρ x6 = v6 := by conv => lhs; whnf) (hx7 : ev ρ x7 = v7 := by conv => lhs; whnf) (hc0 : v0.cells = #[v0] := by rfl) (hc1 : v1.cells = #[v1] := by rfl) (hc2 : v2.cells = #[v2] := by rfl) (hc3 : v3.cells = #[v3] := by rfl) (hc4 : v4.cells = #[v4] := by rfl) (hc5 : v5.cells = #[v5] := by rfl) (hc6 : v6.cells = #[v6] := by rfl) (hc7 : v7.cells = #[v7] := by rfl) (hd : Nat.blt d n = true := by rfl) (hw : Wanted ops ρ gd := by first | exact .none | exact .some ⟨_, rfl, rfl⟩) :
    LW P n ops Q (⟨some d, .buildSlice ty 8 #[(0, x0), (1, x1), (2, x2), (3, x3), (4, x4), (5, x5), (6, x6), (7, x7)], T, p, af, gd⟩ :: rest) ρ w :=
  q_side (k := 1) [[v0], [v1], [v2], [v3], [v4], [v5], [v6], [v7]] H ⟨rfl, by rw [hx0, hc0], rfl, ⟨rfl, by rw [hx1, hc1], rfl, ⟨rfl, by rw [hx2, hc2], rfl, ⟨rfl, by rw [hx3, hc3], rfl, ⟨rfl, by rw [hx4, hc4], rfl, ⟨rfl, by rw [hx5, hc5], rfl, ⟨rfl, by rw [hx6, hc6], rfl, ⟨rfl, by rw [hx7, hc7], rfl, trivial⟩⟩⟩⟩⟩⟩⟩⟩ h rfl (by decide) (by decide) hd hw
/-- Nothing, put side by side. -/
theorem q_side0 {ty e k b : Nat} {z : List Value} [hs : SlOf P ty e z k b] (H : St S w0 L w) (h : ∀ g w', St S w0 (.sl k (.slice (some ⟨g, 0, none⟩) 0 0) 0 [] :: L) w' → LW P n ops Q rest (upd ρ d (.slice (some ⟨g, 0, none⟩) 0 0)) w')
    (hd : Nat.blt d n = true := by rfl) (hw : Wanted ops ρ gd := by first | exact .none | exact .some ⟨_, rfl, rfl⟩) :
    LW P n ops Q (⟨some d, .buildSlice ty 0 #[], T, p, af, gd⟩ :: rest) ρ w := by
  have hi := hs.info
  have H' : St S w0 (cells w.heap.size [] e :: L) (w.alloc (.cells #[] e)) := H.alloc _
  refine lw_value hw hd (v := .slice (some ⟨w.heap.size, 0, none⟩) 0 0) (w' := w.alloc (.cells #[] e)) ?_ (h _ _ (H'.asSl k 0 (by simp) (by omega) (by simp)))
  cases hq : P.info? e with
  | none => simp [hq] at hi
  | some i =>
    simp only [hq, Option.map_some, Option.some.injEq, Prod.mk.injEq] at hi
    have hs1 : (sizeOf e).run P w = .ok k w := by simp [sizeOf, typeInfo, hq, hi]
    have hn : ¬ 0 * k > 2 ^ 24 := by omega
    have h0 : 0 * k = 0 := by omega
    simp only [execOp, Instr.buildSlice, Sem.run_bind, run_underlying hs.und, Result.andThen_ok, Sem.run_pure, hs1, h0, if_true]
    simp [Instr.fill, newRow]
    congr 2
    apply Array.ext' ; simp
theorem q_side0B {ty e b : Nat} {z : List Value} [hs : SlOf P ty e z 1 b] (H : St S w0 L w) (h : ∀ g w', St S w0 (bsl (.slice (some ⟨g, 0, none⟩) 0 0) [] :: L) w' → LW P n ops Q rest (upd ρ d (.slice (some ⟨g, 0, none⟩) 0 0)) w')
    (hd : Nat.blt d n = true := by rfl) (hw : Wanted ops ρ gd := by first | exact .none | exact .some ⟨_, rfl, rfl⟩) :
    LW P n ops Q (⟨some d, .buildSlice ty 0 #[], T, p, af, gd⟩ :: rest) ρ w := q_side0 H h hd hw
/-- Bytes put side by side and appended. -/
theorem q_convU {s t : TypeId} {x : Operand} {k : IntKind} {a : Int} [hs : CellOf P s] [ht : IntOf P t .u64] (h : LW P n ops Q rest (upd ρ d (.int .u64 a)) w) (hx : ev ρ x = .int k a := by rfl) (h1 : 0 ≤ a := by omega) (h2 : a ≤ 18446744073709551615 := by omega) (hd : Nat.blt d n = true := by rfl) (hw : Wanted ops ρ gd := by first | exact .none | exact .some ⟨_, rfl, rfl⟩) :
    LW P n ops Q (⟨some d, .convert s t x, T, p, af, gd⟩ :: rest) ρ w := q_conv h (IntWalk.u64_in _ ⟨h1, h2⟩) hx hd hw
end
theorem pby (a s : Nat) : IntKind.u8.wrap ((a : Int).fdiv (2 ^ s)) = by8 (UInt8.ofNat (a / 2 ^ s)) := by
  rw [IntKind.wrap_u8']
  unfold by8
  rw [UInt8.toNat_ofNat', Int.fdiv_eq_ediv_of_nonneg _ (by have : (0 : Int) < 2 ^ s := Int.pow_pos (by omega); omega)]
  simp
end Go.Proofs.Ytbdkicmdidcdcaa
namespace Go.Proofs.Ytbdkicmdidcdcaa
open Go.RowKit

/-- Parts that are constant bytes. -/
def constParts : List UInt8 → Nat → List (Nat × Operand)
  | [], _ => []
  | b :: l, i => (i, .const (.int .u8 (by8 b))) :: constParts l (i + 1)
theorem constParts_side (ρ : Env) : ∀ (l : List UInt8) (i : Nat), sideBy 1 (constParts l i) i ((bs l).map fun v => [v]) ρ
  | [], _ => trivial
  | _ :: l, i => ⟨rfl, rfl, rfl, constParts_side ρ l (i + 1)⟩
theorem flatten_single (l : List Value) : (l.map fun v => [v]).flatten = l := by
  induction l with
  | nil => rfl
  | cons a l ih => simp [ih]
section
variable {P : Program} {n : Nat} {Q : Post} {ρ : Env} {w : World} {ops : Array Oper} {rest : List Oper} {d : Nat} {T : TypeId} {p : String} {af : Array Edge} {gd : Option (Nat × Bool)}
variable {S : Nat → Prop} {w0 : World} {L M M' : List Res}
/-- Constant bytes. -/
theorem q_constB {ty e b len : Nat} {z : List Value} {parts : Array (Nat × Operand)} (l : List UInt8) [hs : SlOf P ty e z 1 b] (H : St S w0 L w) (h : ∀ g w', St S w0 (cells g (bs l) e :: L) w' → LW P n ops Q rest (upd ρ d (.slice (some ⟨g, 0, none⟩) len len)) w')
    (hp : parts.toList = constParts l 0 := by rfl) (hlen : parts.size = len := by rfl) (h0 : 0 < len := by decide) (h24 : len ≤ 16777216 := by decide) (hd : Nat.blt d n = true := by rfl) (hw : Wanted ops ρ gd := by first | exact .none | exact .some ⟨_, rfl, rfl⟩) :
    LW P n ops Q (⟨some d, .buildSlice ty len parts, T, p, af, gd⟩ :: rest) ρ w := by
  refine q_side (k := 1) ((bs l).map fun v => [v]) H (by rw [hp]; exact constParts_side ρ l 0) ?_ hlen (by omega) (by omega) hd hw
  rw [flatten_single]
  exact h
theorem run_mark {s t e g m c : Nat} {u : World} {cs : Array Value} {te : TypeId} (ht : P.underlying t = some (.slice e)) (he : P.underlying e = some (.int .u8)) (hg : u.heap[g]? = some (.cells cs te (0, 0))) (hst : s = t) :
    ∃ w', (convert s t (.slice (some ⟨g, 0, none⟩) m c)).run P u = .ok (.slice (some ⟨g, 0, none⟩) m c) w' ∧ w'.heap[g]? = some (.cells cs te (cs.size, cs.size + 1)) ∧ Fr (fun k => k = g) u w' := by
  subst hst
  have hlt := lt_of_heap hg
  have hsh : u.shape? g = some (te, cs.size) := by unfold World.shape?; rw [hg]
  refine ⟨u.freeze ⟨g, cs.size, none⟩ 1, by simp [convert, run_underlying ht, run_underlying he, markStringish, hsh], ?_, ?_⟩
  · unfold World.freeze
    rw [if_neg (by decide)]
    simp only [Array.getElem?_modify, if_true, hg]
    simp
  · unfold World.freeze
    rw [if_neg (by decide)]
    refine ⟨rfl, rfl, rfl, by simp, fun k hk hn => ?_⟩
    simp only [Array.getElem?_modify]
    rw [if_neg (fun e => hn e.symm)]
/-- Constant bytes of a string are marked. -/
theorem q_markC {t e b g m : Nat} {z : List Value} {x : Operand} {c : Nat} {l : List Value} {te : TypeId} [hs : SlOf P t e z 1 b] [he : IntOf P e .u8] (H : St S w0 L w) (h : ∀ w', St S w0 (.pt g (.cells l.toArray te (l.length, l.length + 1)) :: M) w' → LW P n ops Q rest (upd ρ d (.slice (some ⟨g, 0, none⟩) m c)) w')
    (hx : ev ρ x = .slice (some ⟨g, 0, none⟩) m c := by rfl)
    (ht : Take L (cells g l te) M := by first | exact .z | exact .s .z | exact .s (.s .z) | exact .s (.s (.s .z)) | exact .s (.s (.s (.s .z))) | exact .s (.s (.s (.s (.s .z)))) | exact .s (.s (.s (.s (.s (.s .z))))) | exact .s (.s (.s (.s (.s (.s (.s .z)))))))
    (hd : Nat.blt d n = true := by rfl) (hw : Wanted ops ρ gd := by first | exact .none | exact .some ⟨_, rfl, rfl⟩) :
    LW P n ops Q (⟨some d, .convert t t x, T, p, af, gd⟩ :: rest) ρ w := by
  have H' := H.take ht
  obtain ⟨w', hr, h1, h2⟩ := run_mark (P := P) (s := t) (m := m) (c := c) hs.und he.und (H'.blk .z) rfl
  refine lw_value hw hd (w' := w') (by simp only [execOp, hx, Sem.run_bind, hr, Result.andThen_ok, Sem.run_pure]) (h w' ?_)
  have := H'.store h1 h2
  simpa using this
/-- Strings held against each other. -/
theorem run_seq {xt : TypeId} {a b : ByteArray} : (binOp .eql xt (.string a) (.string b)).run P w = .ok (.bool (decide (a.data.toList = b.data.toList))) w := by
  rw [binOp_string_eql, ByteArray.toList_eq, ByteArray.toList_eq]
  show Result.ok _ _ = _
  congr 2
  by_cases h : a.data.toList = b.data.toList
  · rw [beq_iff_eq.2 h, decide_eq_true h]
  · rw [beq_eq_false_iff_ne.2 h, decide_eq_false h]
theorem run_sne {xt : TypeId} {a b : ByteArray} : (binOp .neq xt (.string a) (.string b)).run P w = .ok (.bool (!decide (a.data.toList = b.data.toList))) w := by
  rw [binOp_string_neq, ByteArray.toList_eq, ByteArray.toList_eq]
  show Result.ok _ _ = _
  congr 2
  by_cases h : a.data.toList = b.data.toList
  · rw [beq_iff_eq.2 h, decide_eq_true h]
  · rw [beq_eq_false_iff_ne.2 h, decide_eq_false h]
theorem x_str2 {op : BinOp} {xt yt : TypeId} {x y : Operand} {a b : ByteArray} {dst : Option Nat} {r : Value} (hr : (binOp op xt (.string a) (.string b)).run P w = .ok r w) (hx : ev ρ x = .string a := by rfl) (hy : ev ρ y = .string b := by rfl) :
    (execOp (ev ρ) ⟨dst, .binOp op xt x y yt, T, p, af, gd⟩).run P w = .ok (.value r) w := by
  have he : (eqGuard op xt x y (.string a) (.string b)).run P w = .ok () w := by unfold eqGuard; cases op <;> simp
  simp only [execOp, hx, hy, Sem.run_bind, he, Result.andThen_ok, hr, Sem.run_pure]
theorem q_seq_t {xt yt : TypeId} {x y : Operand} {a b : ByteArray} (h : LW P n ops Q rest (upd ρ d (.bool true)) w) (hx : ev ρ x = .string a := by rfl) (hy : ev ρ y = .string b := by rfl) (hp : a.data.toList = b.data.toList := by first | rfl | assumption) (hd : Nat.blt d n = true := by rfl) (hw : Wanted ops ρ gd := by first | exact .none | exact .some ⟨_, rfl, rfl⟩) :
    LW P n ops Q (⟨some d, .binOp .eql xt x y yt, T, p, af, gd⟩ :: rest) ρ w := lw_value hw hd (x_str2 (r := .bool true) (by rw [run_seq, decide_eq_true hp]) hx hy) h
theorem q_seq_f {xt yt : TypeId} {x y : Operand} {a b : ByteArray} (h : LW P n ops Q rest (upd ρ d (.bool false)) w) (hx : ev ρ x = .string a := by rfl) (hy : ev ρ y = .string b := by rfl) (hp : a.data.toList ≠ b.data.toList := by assumption) (hd : Nat.blt d n = true := by rfl) (hw : Wanted ops ρ gd := by first | exact .none | exact .some ⟨_, rfl, rfl⟩) :
    LW P n ops Q (⟨some d, .binOp .eql xt x y yt, T, p, af, gd⟩ :: rest) ρ w := lw_value hw hd (x_str2 (r := .bool false) (by rw [run_seq, decide_eq_false hp]) hx hy) h
theorem q_sne_t {xt yt : TypeId} {x y : Operand} {a b : ByteArray} (h : LW P n ops Q rest (upd ρ d (.bool true)) w) (hx : ev ρ x = .string a := by rfl) (hy : ev ρ y = .string b := by rfl) (hp : a.data.toList ≠ b.data.toList := by assumption) (hd : Nat.blt d n = true := by rfl) (hw : Wanted ops ρ gd := by first | exact .none | exact .some ⟨_, rfl, rfl⟩) :
    LW P n ops Q (⟨some d, .binOp .neq xt x y yt, T, p, af, gd⟩ :: rest) ρ w := lw_value hw hd (x_str2 (r := .bool true) (by rw [run_sne, decide_eq_false hp]; rfl) hx hy) h
theorem q_sne_f {xt yt : TypeId} {x y : Operand} {a b : ByteArray} (h : LW P n ops Q rest (upd ρ d (.bool false)) w) (hx : ev ρ x = .string a := by rfl) (hy : ev ρ y = .string b := by rfl) (hp : a.data.toList = b.data.toList := by first | rfl | assumption) (hd : Nat.blt d n = true := by rfl) (hw : Wanted ops ρ gd := by first | exact .none | exact .some ⟨_, rfl, rfl⟩) :
    LW P n ops Q (⟨some d, .binOp .neq xt x y yt, T, p, af, gd⟩ :: rest) ρ w := lw_value hw hd (x_str2 (r := .bool false) (by rw [run_sne, decide_eq_true hp]; rfl) hx hy) h
end
end Go.Proofs.Ytbdkicmdidcdcaa
namespace Go.Proofs.Ytbdkicmdidcdcaa
open Go.RowKit

def placesOf : List (List Value) → Nat → List (Nat × Nat)
  | [], _ => []
  | u :: us, o => (o, u.length) :: placesOf us (o + u.length)
theorem placesOf_get : ∀ (us vs : List (List Value)) (o : Nat), (placesOf (us ++ vs) o)[us.length]? = (placesOf vs (o + us.flatten.length))[0]?
  | [], vs, o => by simp
  | u :: us, vs, o => by
    simp only [List.cons_append, placesOf, List.length_cons, List.getElem?_cons_succ]
    rw [placesOf_get us vs (o + u.length)]
    simp [Nat.add_assoc]
/-- A struct, by the parts of its zero. -/
class RecOf (P : Program) (t : TypeId) (us : outParam (List (List Value))) : Prop where
  und : ∃ fs, P.underlying t = some (.struct fs) ∧ fs.toList.mapM (fun f => (P.info? f.type).map fun i => (f.offset, i.size)) = some (placesOf us 0)
  zero : (P.info? t).map (fun i => i.zero.map Value.cells) = some (some us.flatten.toArray)
def fldBy : List (List Value) → List (Nat × Operand) → Nat → List (List Value) → Env → Prop
  | us, [], _, cs, _ => us = cs
  | u :: us, (i, x) :: ps, j, c :: cs, ρ => (i = j ∧ (ev ρ x).cells = c.toArray ∧ c.length = u.length ∧ fldBy us ps (j + 1) cs ρ) ∨ (i ≠ j ∧ u = c ∧ fldBy us ((i, x) :: ps) (j + 1) cs ρ)
  | _, _, _, _, _ => False
theorem fill_flds (all : List (List Value)) (ρ : Env) : ∀ (us bs' : List (List Value)) (ps : List (Nat × Operand)) (cs : List (List Value)) (A : List Value), all = bs' ++ us → bs'.flatten.length = A.length → fldBy us ps bs'.length cs ρ →
    Instr.fill ((placesOf all 0).toArray[·]?) (A ++ us.flatten).toArray (ps.map fun (i, x) => (i, ev ρ x)) = some (A ++ cs.flatten).toArray
  | us, bs', [], cs, A, _, _, h => by
    have : us = cs := by cases us <;> exact h
    subst this; simp [Instr.fill]
  | [], _, _ :: _, _, _, _, _, h => by simp [fldBy] at h
  | _ :: _, _, _ :: _, [], _, _, _, h => by simp [fldBy] at h
  | u :: us, bs', (i, x) :: ps, c :: cs, A, ha, hl, h => by
    rcases h with ⟨rfl, h1, h2, h3⟩ | ⟨h1, rfl, h3⟩
    · have hp : (placesOf all 0)[bs'.length]? = some (A.length, u.length) := by
        rw [ha, placesOf_get, hl]; simp [placesOf]
      have hp' : (placesOf all 0).toArray[bs'.length]? = some (A.length, u.length) := by simpa using hp
      simp only [List.map_cons, Instr.fill, hp', h1, List.size_toArray, h2]
      rw [if_neg (by simp)]
      have hf := fold_put c u A us.flatten A.length 0 h2.symm (by omega)
      have ih := fill_flds all ρ us (bs' ++ [u]) ps cs (A ++ c) (by rw [ha]; simp) (by simp [hl, h2]) (by simpa using h3)
      have e : ∀ a b : Array Value, a = b → Instr.fill ((placesOf all 0).toArray[·]?) a (ps.map fun (i, x) => (i, ev ρ x)) = Instr.fill ((placesOf all 0).toArray[·]?) b (ps.map fun (i, x) => (i, ev ρ x)) := fun a b e => by rw [e]
      refine (e _ ((A ++ c) ++ us.flatten).toArray ?_).trans ?_
      · rw [← hf]; simp
      · rw [ih]; simp
    · have ih := fill_flds all ρ us (bs' ++ [u]) ((i, x) :: ps) cs (A ++ u) (by rw [ha]; simp) (by simp [hl]) (by simpa using h3)
      have e : A ++ (u :: us).flatten = (A ++ u) ++ us.flatten := by simp
      rw [e, ih]; simp
section
variable {P : Program} {n : Nat} {Q : Post} {ρ : Env} {w : World} {ops : Array Oper} {rest : List Oper} {d : Nat} {T : TypeId} {p : String} {af : Array Edge} {gd : Option (Nat × Bool)}
variable {S : Nat → Prop} {w0 : World} {L M M' : List Res}
/-- A struct, its parts in order. -/
theorem x_build {ty : Nat} {parts : Array (Nat × Operand)} {us : List (List Value)} (css : List (List Value)) (l : List Value) [hs : RecOf P ty us]
    (hp : fldBy us parts.toList 0 css ρ) (hl : css.flatten = l := by rfl) :
    (execOp (ev ρ) ⟨some d, .build ty parts, T, p, af, gd⟩).run P w = .ok (.value (.agg l.toArray)) w := by
  obtain ⟨fs, hu, hm⟩ := hs.und
  have hz := hs.zero
  have hb : P.built ty (parts.map fun (i, x) => (i, ev ρ x)).toList = some l.toArray := by
    unfold Program.built
    cases hq : P.info? ty with
    | none => simp [hq] at hz
    | some it =>
      cases hq2 : it.zero with
      | none => simp [hq, hq2] at hz
      | some z =>
        have hc : z.cells = us.flatten.toArray := by simpa [hq, hq2] using hz
        simp only [hu, hq2, hm, hc]
        have := fill_flds us ρ us [] parts.toList css [] rfl rfl hp
        simp only [List.nil_append, hl] at this
        simpa using this
  simp only [execOp, Sem.run_bind, run_build w ty _ _ hb, Result.andThen_ok, Sem.run_pure]
theorem q_build {ty : Nat} {parts : Array (Nat × Operand)} {us : List (List Value)} (css : List (List Value)) (l : List Value) [hs : RecOf P ty us]
    (h : LW P n ops Q rest (upd ρ d (.agg l.toArray)) w)
    (hp : fldBy us parts.toList 0 css ρ := by repeat (first | rfl | (refine .inl ⟨rfl, rfl, rfl, ?_⟩) | (refine .inr ⟨by decide, rfl, ?_⟩))) (hl : css.flatten = l := by rfl) (hd : Nat.blt d n = true := by rfl) (hw : Wanted ops ρ gd := by first | exact .none | exact .some ⟨_, rfl, rfl⟩) :
    LW P n ops Q (⟨some d, .build ty parts, T, p, af, gd⟩ :: rest) ρ w := lw_value hw hd (x_build css l hp hl) h
theorem run_binop_sl {op : BinOp} {xt yt : TypeId} {x y : Operand} {a b : Option Addr} {n1 c1 n2 c2 : Nat} {dst : Option Nat} {r : Value} (hx : ev ρ x = .slice a n1 c1) (hy : ev ρ y = .slice b n2 c2) (hr : (binOp op xt (.slice a n1 c1) (.slice b n2 c2)).run P w = .ok r w) :
    (execOp (ev ρ) ⟨dst, .binOp op xt x y yt, T, p, af, gd⟩).run P w = .ok (.value r) w := by
  simp [execOp, hx, hy, eqGuard, hr]
theorem q_snil_eq_f {xt yt e k b : Nat} {z : List Value} [ht : SlOf P xt e z k b] {x y : Operand} {a : Addr} {m c : Nat} (h : LW P n ops Q rest (upd ρ d (.bool false)) w) (hx : ev ρ x = .slice (some a) m c := by rfl) (hy : ev ρ y = .slice none 0 0 := by rfl) (hd : Nat.blt d n = true := by rfl) (hw : Wanted ops ρ gd := by first | exact .none | exact .some ⟨_, rfl, rfl⟩) :
    LW P n ops Q (⟨some d, .binOp .eql xt x y yt, T, p, af, gd⟩ :: rest) ρ w := lw_value hw hd (run_binop_sl hx hy (by rw [Lib.run_eql_slice_nil _ _ _ _ _ _ _ _ ht.und]; rfl)) h
theorem q_snil_eq_t {xt yt e k b : Nat} {z : List Value} [ht : SlOf P xt e z k b] {x y : Operand} (h : LW P n ops Q rest (upd ρ d (.bool true)) w) (hx : ev ρ x = .slice none 0 0 := by rfl) (hy : ev ρ y = .slice none 0 0 := by rfl) (hd : Nat.blt d n = true := by rfl) (hw : Wanted ops ρ gd := by first | exact .none | exact .some ⟨_, rfl, rfl⟩) :
    LW P n ops Q (⟨some d, .binOp .eql xt x y yt, T, p, af, gd⟩ :: rest) ρ w := lw_value hw hd (run_binop_sl hx hy (by rw [Lib.run_eql_slice_nil _ _ _ _ _ _ _ _ ht.und]; rfl)) h
theorem q_snil_ne_t {xt yt e k b : Nat} {z : List Value} [ht : SlOf P xt e z k b] {x y : Operand} {a : Addr} {m c : Nat} (h : LW P n ops Q rest (upd ρ d (.bool true)) w) (hx : ev ρ x = .slice (some a) m c := by rfl) (hy : ev ρ y = .slice none 0 0 := by rfl) (hd : Nat.blt d n = true := by rfl) (hw : Wanted ops ρ gd := by first | exact .none | exact .some ⟨_, rfl, rfl⟩) :
    LW P n ops Q (⟨some d, .binOp .neq xt x y yt, T, p, af, gd⟩ :: rest) ρ w := lw_value hw hd (run_binop_sl hx hy (by rw [run_neq_slice_nil_any _ _ _ _ _ _ _ _ ht.und]; rfl)) h
theorem q_snil_ne_f {xt yt e k b : Nat} {z : List Value} [ht : SlOf P xt e z k b] {x y : Operand} (h : LW P n ops Q rest (upd ρ d (.bool false)) w) (hx : ev ρ x = .slice none 0 0 := by rfl) (hy : ev ρ y = .slice none 0 0 := by rfl) (hd : Nat.blt d n = true := by rfl) (hw : Wanted ops ρ gd := by first | exact .none | exact .some ⟨_, rfl, rfl⟩) :
    LW P n ops Q (⟨some d, .binOp .neq xt x y yt, T, p, af, gd⟩ :: rest) ρ w := lw_value hw hd (run_binop_sl hx hy (by rw [run_neq_slice_nil_any _ _ _ _ _ _ _ _ ht.und]; rfl)) h
end
end Go.Proofs.Ytbdkicmdidcdcaa
namespace Go.Proofs.Ytbdkicmdidcdcaa
open Go.RowKit

/-- A struct or an array that may be compared, and be a key. -/
class DeepOf (P : Program) (t : TypeId) : Prop where
  law : Maps.Keyed P t
  deep : ∃ m, m ≤ 10000 ∧ P.keyTypeAt m t = true
  wide : (match P.underlying t with | some (.array _ _) | some (.struct _) => true | _ => false) = true
  guard : P.eqGuardType P.depth t = false
  ktype : P.keyType t = true
  big : 8 ≤ P.types.size
theorem DeepOf.mk' {P : Program} {t : TypeId} (hl : laidOutB P = true) (m : Nat) (hm : m + 1 ≤ 10000) (h1 : Nat.blt t P.types.size = true) (h2 : P.keyTypeAt m t = true) (h3 : (match P.underlying t with | some (.array _ _) | some (.struct _) => true | _ => false) = true) (h4 : P.eqGuardType P.depth t = false) (h5 : P.keyType t = true) (h6 : Nat.ble 8 P.types.size = true) : DeepOf P t :=
  ⟨Maps.Keyed.of_law (deep_law_laid hl hm (Nat.le_of_ble_eq_true h1) h2 h3), ⟨m, by omega, h2⟩, h3, h4, h5, Nat.le_of_ble_eq_true h6⟩
/-- A key as it should be. -/
def Kv (P : Program) (t : TypeId) (v : Value) : Prop := ∃ l, keyOf P t v = some l
theorem run_weq {P : Program} {t : TypeId} [h : DeepOf P t] {x y : Value} (hx : Kv P t x) (hy : Kv P t y) (w : World) : ∃ r : Bool, (Op.equal t x y).run P w = .ok r w ∧ (r = true ↔ x = y) := by
  obtain ⟨lx, hx⟩ := hx
  obtain ⟨ly, hy⟩ := hy
  obtain ⟨m, hm, hk⟩ := h.deep
  obtain ⟨r, h1, h2⟩ := run_equal_deep w hm hk h.wide hx hy
  refine ⟨r, h1, h2.trans ⟨fun e => ?_, fun e => ?_⟩⟩
  · subst e; exact h.law.inj hx hy
  · subst e; rw [hx] at hy; injection hy
section
variable {P : Program} {n : Nat} {Q : Post} {ρ : Env} {w : World} {ops : Array Oper} {rest : List Oper} {d : Nat} {T : TypeId} {p : String} {af : Array Edge} {gd : Option (Nat × Bool)}
variable {S : Nat → Prop} {w0 : World} {L M' : List Res}
theorem x_weq {t yt : TypeId} [h : DeepOf P t] {x y : Operand} {a b : Array Value} (hx : Kv P t (.agg a)) (hy : Kv P t (.agg b)) (ex : ev ρ x = .agg a := by rfl) (ey : ev ρ y = .agg b := by rfl) {dst : Option Nat} :
    ∃ r : Bool, (execOp (ev ρ) ⟨dst, .binOp .eql t x y yt, T, p, af, gd⟩).run P w = .ok (.value (.bool r)) w ∧ (r = true ↔ (Value.agg a) = .agg b) := by
  obtain ⟨r, h1, h2⟩ := run_weq hx hy w
  exact ⟨r, by simp [execOp, ex, ey, eqGuard, h.guard, binOp, h1], h2⟩
theorem x_wne {t yt : TypeId} [h : DeepOf P t] {x y : Operand} {a b : Array Value} (hx : Kv P t (.agg a)) (hy : Kv P t (.agg b)) (ex : ev ρ x = .agg a := by rfl) (ey : ev ρ y = .agg b := by rfl) {dst : Option Nat} :
    ∃ r : Bool, (execOp (ev ρ) ⟨dst, .binOp .neq t x y yt, T, p, af, gd⟩).run P w = .ok (.value (.bool (!r))) w ∧ (r = true ↔ (Value.agg a) = .agg b) := by
  obtain ⟨r, h1, h2⟩ := run_weq hx hy w
  exact ⟨r, by simp [execOp, ex, ey, eqGuard, h.guard, binOp, h1], h2⟩
theorem q_weq_t {t yt : TypeId} [DeepOf P t] {x y : Operand} {a b : Array Value} (hx : Kv P t (.agg a)) (hy : Kv P t (.agg b)) (he : (Value.agg a) = .agg b) (h : LW P n ops Q rest (upd ρ d (.bool true)) w) (ex : ev ρ x = .agg a := by rfl) (ey : ev ρ y = .agg b := by rfl)
    (hd : Nat.blt d n = true := by rfl) (hw : Wanted ops ρ gd := by first | exact .none | exact .some ⟨_, rfl, rfl⟩) : LW P n ops Q (⟨some d, .binOp .eql t x y yt, T, p, af, gd⟩ :: rest) ρ w := by
  obtain ⟨r, h1, h2⟩ := x_weq (w := w) (yt := yt) (T := T) (p := p) (af := af) (gd := gd) (dst := some d) hx hy ex ey
  rw [h2.2 he] at h1
  exact lw_value hw hd h1 h
theorem q_weq_f {t yt : TypeId} [DeepOf P t] {x y : Operand} {a b : Array Value} (hx : Kv P t (.agg a)) (hy : Kv P t (.agg b)) (he : (Value.agg a) ≠ .agg b) (h : LW P n ops Q rest (upd ρ d (.bool false)) w) (ex : ev ρ x = .agg a := by rfl) (ey : ev ρ y = .agg b := by rfl)
    (hd : Nat.blt d n = true := by rfl) (hw : Wanted ops ρ gd := by first | exact .none | exact .some ⟨_, rfl, rfl⟩) : LW P n ops Q (⟨some d, .binOp .eql t x y yt, T, p, af, gd⟩ :: rest) ρ w := by
  obtain ⟨r, h1, h2⟩ := x_weq (w := w) (yt := yt) (T := T) (p := p) (af := af) (gd := gd) (dst := some d) hx hy ex ey
  cases r with
  | true => exact (he (h2.1 rfl)).elim
  | false => exact lw_value hw hd h1 h
theorem q_wne_t {t yt : TypeId} [DeepOf P t] {x y : Operand} {a b : Array Value} (hx : Kv P t (.agg a)) (hy : Kv P t (.agg b)) (he : (Value.agg a) ≠ .agg b) (h : LW P n ops Q rest (upd ρ d (.bool true)) w) (ex : ev ρ x = .agg a := by rfl) (ey : ev ρ y = .agg b := by rfl)
    (hd : Nat.blt d n = true := by rfl) (hw : Wanted ops ρ gd := by first | exact .none | exact .some ⟨_, rfl, rfl⟩) : LW P n ops Q (⟨some d, .binOp .neq t x y yt, T, p, af, gd⟩ :: rest) ρ w := by
  obtain ⟨r, h1, h2⟩ := x_wne (w := w) (yt := yt) (T := T) (p := p) (af := af) (gd := gd) (dst := some d) hx hy ex ey
  cases r with
  | true => exact (he (h2.1 rfl)).elim
  | false => exact lw_value hw hd h1 h
theorem q_wne_f {t yt : TypeId} [DeepOf P t] {x y : Operand} {a b : Array Value} (hx : Kv P t (.agg a)) (hy : Kv P t (.agg b)) (he : (Value.agg a) = .agg b) (h : LW P n ops Q rest (upd ρ d (.bool false)) w) (ex : ev ρ x = .agg a := by rfl) (ey : ev ρ y = .agg b := by rfl)
    (hd : Nat.blt d n = true := by rfl) (hw : Wanted ops ρ gd := by first | exact .none | exact .some ⟨_, rfl, rfl⟩) : LW P n ops Q (⟨some d, .binOp .neq t x y yt, T, p, af, gd⟩ :: rest) ρ w := by
  obtain ⟨r, h1, h2⟩ := x_wne (w := w) (yt := yt) (T := T) (p := p) (af := af) (gd := gd) (dst := some d) hx hy ex ey
  rw [h2.2 he] at h1
  exact lw_value hw hd h1 h
end

/-! ### what may be a key -/
section
variable {P : Program}
def KL (P : Program) (D : Nat) (t : TypeId) (cs : List Value) : Prop := ∃ ls, P.keyLits D t cs = some ls
theorem keyLits_array {D t n e : Nat} {cs : List Value} (hu : P.underlying t = some (.array n e)) : P.keyLits (D + 1) t cs = if cs.length = P.cellsOf t then ((List.range n).mapM fun i => P.keyLits D e ((cs.drop (i * P.cellsOf e)).take (P.cellsOf e))).map List.flatten else none := by
  conv => lhs; unfold Program.keyLits
  simp only [hu]
theorem keyLits_struct {D t : Nat} {fs : Array Field} {cs : List Value} (hu : P.underlying t = some (.struct fs)) : P.keyLits (D + 1) t cs = if cs.length = P.cellsOf t ∧ fs.all (·.name != "_") = true then (fs.toList.mapM fun f => P.keyLits D f.type ((cs.drop f.offset).take (P.cellsOf f.type))).map List.flatten else none := by
  conv => lhs; unfold Program.keyLits
  simp only [hu]
theorem kl_int {t : TypeId} {k : IntKind} [h : IntOf P t k] (D : Nat) (n : Int) (hw : (Lit.int k n).wf = true) : KL P (D + 1) t [.int k n] := ⟨[.int k n], by simp [Program.keyLits, h.und, hw]⟩
theorem kl_i64 {t : TypeId} [h : IntOf P t .i64] (D : Nat) (n : Int) (h1 : -9223372036854775808 ≤ n) (h2 : n ≤ 9223372036854775807) : KL P (D + 1) t [.int .i64 n] :=
  kl_int D n (by simp only [Lit.wf, Bool.and_eq_true, decide_eq_true_eq]; exact ⟨h1, h2⟩)
theorem kl_str {t : TypeId} [h : StrOf P t] (D : Nat) (s : ByteArray) (hs : s.size ≤ maxLen) : KL P (D + 1) t [.string s] := ⟨[.string s.data.toList], by simp [Program.keyLits, h.und, hs]⟩
theorem kl_u8 {e : TypeId} [h : IntOf P e .u8] (D : Nat) (b : UInt8) : KL P (D + 1) e [.int .u8 (by8 b)] :=
  kl_int D _ (by simp only [Lit.wf, Bool.and_eq_true, decide_eq_true_eq]; have := b.toNat_lt; unfold by8; exact ⟨by show (0 : Int) ≤ _; omega, by show _ ≤ (255 : Int); omega⟩)
theorem kl_bytes {t n e : Nat} [h : ArrOf P t n e 1] [he : IntOf P e .u8] [ha : AggOf P t n] (D : Nat) (l : List UInt8) (hl : l.length = n) : KL P (D + 2) t (bs l) := by
  obtain ⟨d, hu, _, hs⟩ := ha.out
  have hct : P.cellsOf t = n := by unfold Program.cellsOf; rw [hs]; rfl
  have hce : P.cellsOf e = 1 := by unfold Program.cellsOf; rw [h.size]; rfl
  have hb : (bs l).length = n := by rw [bs_length, hl]
  obtain ⟨r, hr⟩ := MapFrom.mapM_some (f := fun i => P.keyLits (D + 1) e (((bs l).drop (i * P.cellsOf e)).take (P.cellsOf e))) (l := List.range n) fun i hi => by
    rw [hce, Nat.mul_one]
    have hi' : i < l.length := by rw [hl]; exact List.mem_range.1 hi
    have : ((bs l).drop i).take 1 = [.int .u8 (by8 l[i])] := by
      have hib : i < (bs l).length := by rw [bs_length]; exact hi'
      rw [List.drop_eq_getElem_cons hib]
      simp [bs]
    rw [this]
    exact kl_u8 D _
  refine ⟨r.flatten, ?_⟩
  show P.keyLits (D + 1 + 1) t (bs l) = _
  rw [keyLits_array h.und, hb, hct, if_pos rfl, hr]; rfl
/-- The types of a struct's fields. -/
class FTys (P : Program) (t : TypeId) (tys : outParam (List TypeId)) : Prop where
  out : ∃ fs, P.underlying t = some (.struct fs) ∧ fs.toList.map (·.type) = tys ∧ fs.all (·.name != "_") = true
def KLs (P : Program) (D : Nat) : List TypeId → List (List Value) → List (List Value) → Prop
  | [], [], [] => True
  | ty :: tys, c :: cs, u :: us => KL P D ty c ∧ c.length = u.length ∧ KLs P D tys cs us
  | _, _, _ => False
theorem KLs.at : ∀ {D : Nat} {tys : List TypeId} {cs us : List (List Value)} {i : Nat} {ty : TypeId} {o m : Nat} {b : Nat} {A : List Value}, KLs P D tys cs us → tys[i]? = some ty → (placesOf us b)[i]? = some (o, m) → A.length = b → KL P D ty (((A ++ cs.flatten).drop o).take m)
  | _, [], [], [], i, _, _, _, _, _, _, h, _, _ => by simp at h
  | D, t :: tys, c :: cs, u :: us, 0, ty, o, m, b, A, ⟨h1, h2, _⟩, ht, hp, hA => by
    simp [placesOf] at ht hp
    obtain ⟨rfl, rfl⟩ := hp
    subst ht
    rw [← hA, List.drop_left, List.flatten_cons, ← h2, List.take_left]
    exact h1
  | D, t :: tys, c :: cs, u :: us, i + 1, ty, o, m, b, A, ⟨_, h2, h3⟩, ht, hp, hA => by
    simp only [List.getElem?_cons_succ, placesOf] at ht hp
    have := KLs.at (A := A ++ c) h3 ht hp (by simp [hA, h2])
    rw [List.flatten_cons, ← List.append_assoc]
    exact this
theorem KLs.len : ∀ {D : Nat} {tys : List TypeId} {cs us : List (List Value)}, KLs P D tys cs us → cs.flatten.length = us.flatten.length
  | _, [], [], [], _ => rfl
  | _, _ :: _, _ :: _, _ :: _, ⟨_, h2, h3⟩ => by simp [h2, KLs.len h3]
theorem kl_rec {t : Nat} {us : List (List Value)} {tys : List TypeId} {k : Nat} [hr : RecOf P t us] [hf : FTys P t tys] [ha : AggOf P t k] (D : Nat) (css : List (List Value)) (h : KLs P D tys css us) (hk : us.flatten.length = k) : KL P (D + 1) t css.flatten := by
  obtain ⟨fs, hu, hp⟩ := hr.und
  obtain ⟨fs', hu', ht, hn⟩ := hf.out
  obtain ⟨d, hu2, _, hs⟩ := ha.out
  rw [hu] at hu'; injection hu' with hu'; injection hu' with hu'; subst hu'
  have hct : P.cellsOf t = k := by unfold Program.cellsOf; rw [hs]; rfl
  obtain ⟨r, hr⟩ := MapFrom.mapM_some (f := fun (f : Field) => P.keyLits D f.type ((css.flatten.drop f.offset).take (P.cellsOf f.type))) (l := fs.toList) fun f hf => by
    obtain ⟨i, hi⟩ := List.mem_iff_getElem?.1 hf
    have h1 := mapM_some_get hp i f hi
    have h2 : tys[i]? = some f.type := by rw [← ht, List.getElem?_map, hi]; rfl
    cases hq : P.info? f.type with
    | none => rw [hq] at h1; simp at h1; have := mapM_some_length hp; have h4 := (List.getElem?_eq_some_iff.1 hi).1; omega
    | some j =>
      rw [hq] at h1
      have hce : P.cellsOf f.type = j.size := by unfold Program.cellsOf; rw [hq]; rfl
      rw [hce]
      have := KLs.at (A := []) h h2 h1.symm rfl
      rwa [List.nil_append] at this
  refine ⟨r.flatten, ?_⟩
  have hl : css.flatten.length = P.cellsOf t := by rw [hct, h.len, hk]
  rw [keyLits_struct hu, if_pos ⟨hl, hn⟩, hr]; rfl
theorem Kv.of {t : TypeId} [h : DeepOf P t] {cs : List Value} {D : Nat} (hD : P.types.size = D) (hk : KL P (D + 1) t cs) (hl : cs.length = P.cellsOf t) : Kv P t (.agg cs.toArray) := by
  obtain ⟨ls, hls⟩ := hk
  have hw := h.wide
  have hf : (Value.agg cs.toArray).formed P t = true := by
    unfold Value.formed
    split at hw
    · rename_i hu; simp [hu, hl]
    · rename_i hu; simp [hu, hl]
    · cases hw
  have hc : P.keyLits (P.types.size + 1) t (Value.agg cs.toArray).cells.toList = some ls := by rw [hD]; exact hls
  refine ⟨.string (keyBytes ls), ?_⟩
  unfold keyOf
  split at hw
  · rename_i hu; simp [hu, h.ktype, hf, hc]
  · rename_i hu; simp [hu, h.ktype, hf, hc]
  · cases hw
theorem AggOf.cellsOf {t n : Nat} (ha : AggOf P t n) : P.cellsOf t = n := by
  obtain ⟨d, hu, _, hs⟩ := ha.out
  unfold Program.cellsOf; rw [hs]; rfl
theorem Kv_bytes {t n e : Nat} [hd : DeepOf P t] [h : ArrOf P t n e 1] [he : IntOf P e .u8] [ha : AggOf P t n] (l : List UInt8) (hl : l.length = n) : Kv P t (.agg (bs l).toArray) := by
  obtain ⟨D, hD⟩ : ∃ D, P.types.size = D + 1 := ⟨P.types.size - 1, by have := hd.big; omega⟩
  exact Kv.of hD (kl_bytes D l hl) (by rw [bs_length, ha.cellsOf, hl])
theorem Kv_rec {t : Nat} {us : List (List Value)} {tys : List TypeId} {k : Nat} [hd : DeepOf P t] [hr : RecOf P t us] [hf : FTys P t tys] [ha : AggOf P t k] (css : List (List Value)) (l : List Value) (hl : css.flatten = l)
    (h : ∀ D, KLs P (D + 5) tys css us) (hk : us.flatten.length = k) : Kv P t (.agg l.toArray) := by
  subst hl
  obtain ⟨D, hD⟩ : ∃ D, P.types.size = D + 5 := ⟨P.types.size - 5, by have := hd.big; omega⟩
  exact Kv.of hD (kl_rec (D + 5) css (h D) hk) (by rw [(h D).len, ha.cellsOf, hk])
end

/-! ### maps -/
section
variable {K V : Type} [DecidableEq K]
def mget : List (K × V) → K → Option V
  | [], _ => none
  | (a, b) :: M, k => if a = k then some b else mget M k
def mput : List (K × V) → K → V → List (K × V)
  | [], k, v => [(k, v)]
  | (a, b) :: M, k, v => if a = k then (k, v) :: M else (a, b) :: mput M k v
theorem mget_none : ∀ {M : List (K × V)} {k : K}, mget M k = none ↔ ∀ p ∈ M, p.1 ≠ k
  | [], k => by simp [mget]
  | (a, b) :: M, k => by
    unfold mget
    by_cases h : a = k
    · simp [h]
    · simp [h, mget_none (M := M)]
theorem mget_mem : ∀ {M : List (K × V)} {k : K} {v : V}, mget M k = some v → (k, v) ∈ M
  | [], k, v, h => by simp [mget] at h
  | (a, b) :: M, k, v, h => by
    unfold mget at h
    by_cases e : a = k
    · simp [e] at h; simp [e, h]
    · simp [e] at h; simp [mget_mem h]
theorem mget_mput : ∀ (M : List (K × V)) (k k' : K) (v : V), mget (mput M k v) k' = if k' = k then some v else mget M k'
  | [], k, k', v => by unfold mput mget; by_cases h : k = k' <;> simp [h, mget, eq_comm]
  | (a, b) :: M, k, k', v => by
    unfold mput
    by_cases h : a = k
    · subst h
      rw [if_pos rfl]
      unfold mget
      by_cases e : a = k'
      · simp [e]
      · rw [if_neg e, if_neg (fun x => e x.symm), if_neg e]
    · rw [if_neg h]
      unfold mget
      by_cases e : a = k'
      · subst e; rw [if_pos rfl, if_neg h, if_pos rfl]
      · rw [if_neg e, if_neg e, mget_mput M k k' v]
theorem mput_keys : ∀ (M : List (K × V)) (k : K) (v : V) (p : K × V), p ∈ mput M k v → p.1 = k ∨ p ∈ M
  | [], k, v, p, h => by simp [mput] at h; simp [h]
  | (a, b) :: M, k, v, p, h => by
    unfold mput at h
    split at h
    · rcases List.mem_cons.1 h with rfl | h
      · exact .inl rfl
      · exact .inr (List.mem_cons_of_mem _ h)
    · rcases List.mem_cons.1 h with rfl | h
      · exact .inr (by simp)
      · exact (mput_keys M k v p h).imp id (List.mem_cons_of_mem _)
theorem mput_nodup : ∀ (M : List (K × V)) (k : K) (v : V), (M.map (·.1)).Nodup → ((mput M k v).map (·.1)).Nodup
  | [], k, v, _ => by simp [mput]
  | (a, b) :: M, k, v, h => by
    have h' := List.nodup_cons.1 h
    unfold mput
    split
    · rename_i e; subst e; exact h
    · rename_i e
      refine List.nodup_cons.2 ⟨fun hm => ?_, mput_nodup M k v h'.2⟩
      obtain ⟨p, hp, hpa⟩ := List.mem_map.1 hm
      rcases mput_keys M k v p hp with h1 | h1
      · exact e (by rw [← h1, hpa])
      · exact h'.1 (List.mem_map.2 ⟨p, h1, hpa⟩)
theorem mput_length_le (k : K) (v : V) : ∀ M : List (K × V), (mput M k v).length ≤ M.length + 1
  | [] => by simp [mput]
  | (a, b) :: M => by
    unfold mput
    split
    · simp
    · simpa using mput_length_le k v M
def ents (κ : K → Value) (ν : V → Value) : List (K × V) → Nat → List MapEntry
  | [], _ => []
  | (k, v) :: M, i => ⟨κ k, ν v, i⟩ :: ents κ ν M (i + 1)
/-- A map as it lies in memory. -/
def mapE (κ : K → Value) (ν : V → Value) (M : List (K × V)) : Obj := .map (ents κ ν M 0).toArray M.length
theorem mapE_nil {K V : Type} (κ : K → Value) (ν : V → Value) : mapE κ ν [] = .map #[] 0 := rfl
omit [DecidableEq K] in
theorem ents_get (κ : K → Value) (ν : V → Value) : ∀ (M : List (K × V)) (i j : Nat), (ents κ ν M i)[j]? = (M[j]?).map fun p => ⟨κ p.1, ν p.2, i + j⟩
  | [], i, j => by simp [ents]
  | (k, v) :: M, i, 0 => by simp [ents]
  | (k, v) :: M, i, j + 1 => by simp only [ents, List.getElem?_cons_succ]; rw [ents_get κ ν M, show i + 1 + j = i + (j + 1) by omega]
omit [DecidableEq K] in
theorem ents_mem {κ : K → Value} {ν : V → Value} {M : List (K × V)} {i : Nat} {e : MapEntry} (h : e ∈ ents κ ν M i) : ∃ p ∈ M, e.key = κ p.1 ∧ e.val = ν p.2 := by
  obtain ⟨j, hj⟩ := List.mem_iff_getElem?.1 h
  rw [ents_get] at hj
  obtain ⟨p, hp, rfl⟩ := Option.map_eq_some_iff.1 hj
  exact ⟨p, List.mem_of_getElem? hp, rfl, rfl⟩
theorem ents_new (κ : K → Value) (ν : V → Value) (k : K) (v : V) : ∀ (M : List (K × V)) (i : Nat), (∀ p ∈ M, p.1 ≠ k) → ents κ ν (mput M k v) i = ents κ ν M i ++ [⟨κ k, ν v, i + M.length⟩] ∧ (mput M k v).length = M.length + 1
  | [], i, _ => by simp [mput, ents]
  | (a, b) :: M, i, h => by
    have h1 : ¬ a = k := h (a, b) (by simp)
    obtain ⟨e1, e2⟩ := ents_new κ ν k v M (i + 1) fun p hp => h p (by simp [hp])
    simp only [mput, if_neg h1, ents, List.length_cons, e1, e2, List.cons_append, and_true]
    rw [show i + 1 + M.length = i + (M.length + 1) by omega]
theorem ents_old (κ : K → Value) (ν : V → Value) (k : K) (v : V) : ∀ (M : List (K × V)) (i j : Nat) (b : V), (M.map (·.1)).Nodup → M[j]? = some (k, b) →
    ents κ ν (mput M k v) i = (ents κ ν M i).modify j (fun e => { e with key := κ k, val := ν v }) ∧ (mput M k v).length = M.length
  | [], i, j, b, _, h => by simp at h
  | (a, c) :: M, i, 0, b, hn, h => by
    simp at h; obtain ⟨rfl, rfl⟩ := h
    simp [mput, ents]
  | (a, c) :: M, i, j + 1, b, hn, h => by
    have h' := List.nodup_cons.1 hn
    simp only [List.getElem?_cons_succ] at h
    have hne : ¬ a = k := fun e => h'.1 (List.mem_map.2 ⟨(k, b), List.mem_of_getElem? h, e.symm⟩)
    obtain ⟨e1, e2⟩ := ents_old κ ν k v M (i + 1) j b h'.2 h
    simp only [mput, if_neg hne, ents, e1, List.length_cons, e2, List.modify_succ_cons, and_self]
theorem mget_at : ∀ {M : List (K × V)} {j : Nat} {k : K} {b : V}, (M.map (·.1)).Nodup → M[j]? = some (k, b) → mget M k = some b
  | [], j, k, b, _, h => by simp at h
  | (a, c) :: M, 0, k, b, _, h => by simp at h; obtain ⟨rfl, rfl⟩ := h; simp [mget]
  | (a, c) :: M, j + 1, k, b, hn, h => by
    have h' := List.nodup_cons.1 hn
    simp only [List.getElem?_cons_succ] at h
    have hne : ¬ a = k := fun e => h'.1 (List.mem_map.2 ⟨(k, b), List.mem_of_getElem? h, e.symm⟩)
    unfold mget
    rw [if_neg hne]; exact mget_at h'.2 h
/-- A map whose keys are as they should be. -/
structure MOk (P : Program) (t : TypeId) (κ : K → Value) (M : List (K × V)) : Prop where
  inj : ∀ a b, κ a = κ b → a = b
  keys : ∀ p ∈ M, Kv P t (κ p.1)
  nodup : (M.map (·.1)).Nodup
  size : M.length ≤ 100000000
omit [DecidableEq K] in
theorem MOk.nil {P : Program} {t : TypeId} {κ : K → Value} (h : ∀ a b, κ a = κ b → a = b) : MOk P t κ ([] : List (K × V)) := ⟨h, fun _ h => by simp at h, by simp, by simp⟩
theorem MOk.put {P : Program} {t : TypeId} {κ : K → Value} {M : List (K × V)} (h : MOk P t κ M) {k : K} (hk : Kv P t (κ k)) (v : V) (hl : M.length < 100000000) : MOk P t κ (mput M k v) :=
  ⟨h.inj, fun p hp => (mput_keys M k v p hp).elim (fun e => by rw [e]; exact hk) (h.keys p), mput_nodup M k v h.nodup, by have := mput_length_le k v M; omega⟩
omit [DecidableEq K] in
theorem MOk.find {P : Program} {t : TypeId} {κ : K → Value} {M : List (K × V)} (h : MOk P t κ M) (ν : V → Value) (law : Maps.Keyed P t) {k : K} (hk : Kv P t (κ k)) (w : World) :
    ((Instr.findKey t (κ k) (ents κ ν M 0)).run P w = .ok none w ∧ ∀ p ∈ M, p.1 ≠ k) ∨ ∃ j b, (Instr.findKey t (κ k) (ents κ ν M 0)).run P w = .ok (some (j, ν b)) w ∧ M[j]? = some (k, b) := by
  obtain ⟨l, hl⟩ := hk
  rcases law.find w hl (ents κ ν M 0) (fun e he => by obtain ⟨p, hp, e1, _⟩ := ents_mem he; rw [e1]; exact h.keys p hp) with ⟨h1, h2⟩ | ⟨j, e, h1, h2, h3⟩
  · refine .inl ⟨h1, fun p hp e => ?_⟩
    obtain ⟨j, hj⟩ := List.mem_iff_getElem?.1 hp
    have := ents_get κ ν M 0 j
    rw [hj] at this
    exact h2 _ (List.mem_of_getElem? this) (by rw [← e])
  · rw [ents_get] at h2
    obtain ⟨p, hp, rfl⟩ := Option.map_eq_some_iff.1 h2
    refine .inr ⟨j, p.2, h1, ?_⟩
    rw [hp]
    exact congrArg some (Prod.ext (h.inj _ _ h3) rfl)
variable {P : Program} {n : Nat} {Q : Post} {ρ : Env} {w : World} {ops : Array Oper} {rest : List Oper} {d : Nat} {T : TypeId} {p : String} {af : Array Edge} {gd : Option (Nat × Bool)}
variable {S : Nat → Prop} {w0 : World} {L M' : List Res}
theorem q_makeMap {t : TypeId} (H : St S w0 L w) (h : ∀ g w', St S w0 (.pt g (.map #[] 0) :: L) w' → LW P n ops Q rest (upd ρ d (.map (some g))) w')
    (hd : Nat.blt d n = true := by rfl) (hw : Wanted ops ρ gd := by first | exact .none | exact .some ⟨_, rfl, rfl⟩) :
    LW P n ops Q (⟨some d, .makeMap t none, T, p, af, gd⟩ :: rest) ρ w :=
  lw_value hw hd (v := .map (some w.heap.size)) (w' := w.alloc (.map #[] 0)) (by simp [execOp, Instr.makeMap, Result.andThen]) (h _ _ (H.alloc _))
theorem q_lookSome {t kt et : TypeId} {x k' : Operand} {g : Nat} {κ : K → Value} {ν : V → Value} {M : List (K × V)} {k : K} {v : V} [hm : MapOf P t kt et] (law : Maps.Keyed P kt) (H : St S w0 L w) (hM : MOk P kt κ M) (hk : Kv P kt (κ k)) (hg : mget M k = some v)
    (h : LW P n ops Q rest (upd ρ d (.tuple #[ν v, .bool true])) w) (hx : ev ρ x = .map (some g) := by rfl) (hy : ev ρ k' = κ k := by rfl)
    (htk : Take L (.pt g (mapE κ ν M)) M' := by first | exact .z | exact .s .z | exact .s (.s .z) | exact .s (.s (.s .z)) | exact .s (.s (.s (.s .z))) | exact .s (.s (.s (.s (.s .z)))) | exact .s (.s (.s (.s (.s (.s .z))))) | exact .s (.s (.s (.s (.s (.s (.s .z)))))))
    (hd : Nat.blt d n = true := by rfl) (hw : Wanted ops ρ gd := by first | exact .none | exact .some ⟨_, rfl, rfl⟩) :
    LW P n ops Q (⟨some d, .lookup t x k' true, T, p, af, gd⟩ :: rest) ρ w := by
  refine lw_value hw hd (w' := w) ?_ h
  have hb : w.heap[g]? = some (.map (ents κ ν M 0).toArray M.length) := H.blk htk
  rcases hM.find ν law hk w with ⟨_, h2⟩ | ⟨j, b, h1, h2⟩
  · rw [mget_none.2 h2] at hg; cases hg
  · rw [mget_at hM.nodup h2] at hg
    cases hg
    obtain ⟨l, hl⟩ := hk
    simp [execOp, hx, hy, Instr.lookup, run_underlying hm.und, MapKept.run_getObj_map hb, law.check w _ hl, h1, Result.andThen]
theorem q_lookNone {t kt et : TypeId} {x k' : Operand} {g : Nat} {κ : K → Value} {ν : V → Value} {M : List (K × V)} {k : K} (z : Value) [hm : MapOf P t kt et] (law : Maps.Keyed P kt) (H : St S w0 L w) (hM : MOk P kt κ M) (hk : Kv P kt (κ k)) (hg : mget M k = none)
    (h : LW P n ops Q rest (upd ρ d (.tuple #[z, .bool false])) w) (hz : (P.info? et).map (·.zero) = some (some z) := by kernel_rfl) (hx : ev ρ x = .map (some g) := by rfl) (hy : ev ρ k' = κ k := by rfl)
    (htk : Take L (.pt g (mapE κ ν M)) M' := by first | exact .z | exact .s .z | exact .s (.s .z) | exact .s (.s (.s .z)) | exact .s (.s (.s (.s .z))) | exact .s (.s (.s (.s (.s .z)))) | exact .s (.s (.s (.s (.s (.s .z))))) | exact .s (.s (.s (.s (.s (.s (.s .z)))))))
    (hd : Nat.blt d n = true := by rfl) (hw : Wanted ops ρ gd := by first | exact .none | exact .some ⟨_, rfl, rfl⟩) :
    LW P n ops Q (⟨some d, .lookup t x k' true, T, p, af, gd⟩ :: rest) ρ w := by
  refine lw_value hw hd (w' := w) ?_ h
  have hb : w.heap[g]? = some (.map (ents κ ν M 0).toArray M.length) := H.blk htk
  have hz1 : (zeroValue et).run P w = .ok z w := by
    cases hq : P.info? et with
    | none => simp [hq] at hz
    | some i => simp [hq] at hz; simp [zeroValue, typeInfo, hq, hz]
  rcases hM.find ν law hk w with ⟨h1, _⟩ | ⟨j, b, _, h2⟩
  · obtain ⟨l, hl⟩ := hk
    simp [execOp, hx, hy, Instr.lookup, run_underlying hm.und, MapKept.run_getObj_map hb, law.check w _ hl, h1, hz1, Result.andThen]
  · rw [mget_at hM.nodup h2] at hg; cases hg
theorem q_mapPut {t kt et : TypeId} {x k' v' : Operand} {g : Nat} {κ : K → Value} {ν : V → Value} {M : List (K × V)} {k : K} {v : V} [hm : MapOf P t kt et] (law : Maps.Keyed P kt) (H : St S w0 L w) (hM : MOk P kt κ M) (hk : Kv P kt (κ k))
    (h : ∀ w', St S w0 (.pt g (mapE κ ν (mput M k v)) :: M') w' → LW P n ops Q rest ρ w') (hx : ev ρ x = .map (some g) := by rfl) (hy : ev ρ k' = κ k := by rfl) (hv : ev ρ v' = ν v := by rfl)
    (htk : Take L (.pt g (mapE κ ν M)) M' := by first | exact .z | exact .s .z | exact .s (.s .z) | exact .s (.s (.s .z)) | exact .s (.s (.s (.s .z))) | exact .s (.s (.s (.s (.s .z)))) | exact .s (.s (.s (.s (.s (.s .z))))) | exact .s (.s (.s (.s (.s (.s (.s .z)))))))
    (hw : Wanted ops ρ gd := by first | exact .none | exact .some ⟨_, rfl, rfl⟩) :
    LW P n ops Q (⟨none, .mapUpdate t x k' v', T, p, af, gd⟩ :: rest) ρ w := by
  have hb : w.heap[g]? = some (.map (ents κ ν M 0).toArray M.length) := H.blk htk
  have H' := H.take htk
  have fin : ∀ es c, (.map es c : Obj) = mapE κ ν (mput M k v) → LW P n ops Q rest ρ (ChangeMaps.setBlock w g (.map es c)) := fun es c e => by
    refine h _ (H'.store (by rw [ChangeMaps.heap_setBlock_same hb, e]) ⟨rfl, rfl, rfl, by simp [ChangeMaps.setBlock], fun i _ hi => ChangeMaps.heap_setBlock_other hb _ hi⟩)
  rcases hM.find ν law hk w with ⟨h1, h2⟩ | ⟨j, b, h1, h2⟩
  · obtain ⟨e1, e2⟩ := ents_new κ ν k v M 0 h2
    refine lw_skip hw rfl ?_ (fin ((ents κ ν M 0).toArray.push ⟨κ k, ν v, M.length⟩) (M.length + 1) (by unfold mapE; rw [e1, e2]; simp))
    obtain ⟨l, hl⟩ := hk
    simp [execOp, hx, hy, hv, Instr.mapUpdate, run_underlying hm.und, MapKept.run_getObj_map hb, law.check w false hl, h1, MapKept.run_setObj_map _ hb, Result.andThen, ChangeMaps.setBlock]
  · obtain ⟨e1, e2⟩ := ents_old κ ν k v M 0 j b hM.nodup h2
    refine lw_skip hw rfl ?_ (fin ((ents κ ν M 0).toArray.modify j fun e => { e with key := κ k, val := ν v }) M.length (by unfold mapE; rw [e1, e2]; simp))
    obtain ⟨l, hl⟩ := hk
    have hj : (ents κ ν M 0)[j]? = some ⟨κ k, ν b, 0 + j⟩ := by rw [ents_get, h2]; rfl
    simp [execOp, hx, hy, hv, Instr.mapUpdate, run_underlying hm.und, MapKept.run_getObj_map hb, law.check w false hl, h1, hj, law.stays w hl, MapKept.run_setObj_map _ hb, Result.andThen, ChangeMaps.setBlock]
end
end Go.Proofs.Ytbdkicmdidcdcaa
namespace Go.Proofs.Ytbdkicmdidcdcaa
open Go.RowKit

def HoldB : List (Value × List UInt8) → World → Prop
  | [], _ => True
  | (v, l) :: r, w => RB w v l ∧ HoldB r w
theorem HoldB.nil {w : World} : HoldB [] w := trivial
theorem HoldB.cons {v : Value} {l : List UInt8} {r : List (Value × List UInt8)} {w : World} (h : RB w v l) (k : HoldB r w) : HoldB ((v, l) :: r) w := ⟨h, k⟩
def Hold2 (a : List (Nat × Obj)) (b : List (Value × List UInt8)) (w : World) : Prop := Hold a w ∧ HoldB b w
theorem Hold2.mk {a : List (Nat × Obj)} {b : List (Value × List UInt8)} {w : World} (h : Hold a w) (k : HoldB b w) : Hold2 a b w := ⟨h, k⟩
theorem str_data (l : List UInt8) : (str l).data.toList = l := by simp [str]
theorem str_size (l : List UInt8) : (str l).size = l.length := by simp [str, ByteArray.size]
theorem str_inj {l m : List UInt8} (h : str l = str m) : l = m := by rw [← str_data l, h, str_data]
theorem str_of (s : ByteArray) : str s.data.toList = s := by cases s; simp [str]
/-! ### operations behind a guard that was off itself -/
def Yund (ops : Array Oper) (ρ : Env) (j : Nat) : Prop := ∃ d, (ops[j]?).bind (·.dst) = some d ∧ ρ d = undef
theorem yund_act {n : Nat} {ρ : Env} {ops : Array Oper} {j : Nat} (h : Yund ops ρ j) : yielded ops (act n ρ).tmps j = none := by
  obtain ⟨d, h1, h2⟩ := h
  unfold yielded
  rw [h1]
  simp only [Option.bind_some]
  by_cases hlt : d < n
  · have : (act n ρ).tmps[d]? = some (ρ d) := by simp [act, hlt]
    rw [this, h2]; rfl
  · have : (act n ρ).tmps[d]? = none := Array.getElem?_eq_none (by simp only [act, Array.size_ofFn]; exact Nat.le_of_not_lt hlt)
    rw [this]
section
variable {P : Program} {n : Nat} {Q : Post} {ρ : Env} {w : World} {ops : Array Oper} {rest : List Oper} {d : Nat} {T : TypeId} {p : String} {af : Array Edge}
theorem lw_offU {o : Oper} {j : Nat} {b : Bool} (hg : o.guard = some (j, b)) (hy : Yund ops ρ j) (hd : within n o.dst = true) (h : LW P n ops Q rest (pu ρ o.dst undef) w) : LW P n ops Q (o :: rest) ρ w := ⟨fun hf =>
  wpList_step fun K hK => by
    have : Region.wanted o (yielded ops (act n ρ).tmps) = false := by
      unfold Region.wanted
      rw [hg]; simp only
      rw [yund_act hy]; rfl
    rw [this]
    simp only [Bool.false_eq_true, if_false]
    rw [act_put]
    exact hK _ _ (h.out (hf.put hd undef))⟩
theorem q_offU {j : Nat} {b : Bool} {o : Op} (h : LW P n ops Q rest (upd ρ d undef) w) (hy : Yund ops ρ j := by exact ⟨_, rfl, rfl⟩) (hd : Nat.blt d n = true := by rfl) :
    LW P n ops Q (⟨some d, o, T, p, af, some (j, b)⟩ :: rest) ρ w := lw_offU rfl hy hd h
theorem q_offU_none {j : Nat} {b : Bool} {o : Op} (h : LW P n ops Q rest ρ w) (hy : Yund ops ρ j := by exact ⟨_, rfl, rfl⟩) :
    LW P n ops Q (⟨none, o, T, p, af, some (j, b)⟩ :: rest) ρ w := lw_offU rfl hy rfl h
end
section
variable {P : Program} {n : Nat} {Q : Post} {ρ : Env} {ops : Array Oper} {S : World → Prop} {fuel : Nat} {listed : Array Bool} {o : Oper} {w : World}
theorem r_takeOffU (i : Nat) {j : Nat} {b : Bool} (hi : ops[i]? = some o) (hg : o.guard = some (j, b)) (h : RW P n ops Q S fuel (listed.setIfInBounds i true) (pu ρ o.dst undef) w) (hy : Yund ops ρ j := by exact ⟨_, rfl, rfl⟩)
    (hd : within n o.dst = true := by rfl) (hQ : ∀ c ρ w, Q (.panic c) ρ w → False := by intro _ _ _ h; exact h)
    (hs : Region.noSelect ops = true := by kernel_rfl) (hfr : Region.free .any ops listed i = true := by kernel_rfl) (hrd : (Region.ready .any ops listed).contains i = true := by kernel_rfl) : RW P n ops Q S (fuel + 1) listed ρ w := ⟨fun hf hS =>
  wpAnyH_take (v := undef) hi hs hfr hrd (fun c _ w ⟨ρ', _, _, hq⟩ => (hQ c ρ' w hq).elim) (.inr ⟨by
      unfold Region.wanted
      rw [hg]; simp only
      rw [yund_act hy]; rfl, rfl⟩) hS (by
    rw [act_put]
    exact h.out (hf.put hd undef) hS)⟩
end
section
variable {P : Program} {n : Nat} {Q : Post} {ρ : Env} {w : World} {ops : Array Oper} {rest : List Oper} {d : Nat} {T : TypeId} {p : String} {af : Array Edge} {gd : Option (Nat × Bool)}
theorem x_sadd {xt yt : TypeId} {x y : Operand} {l m : List UInt8} (hx : ev ρ x = .string (str l) := by rfl) (hy : ev ρ y = .string (str m) := by rfl) (hl : l.length + m.length ≤ 1000000 := by first | omega | (simp [*]; omega)) :
    (execOp (ev ρ) ⟨some d, .binOp .add xt x y yt, T, p, af, gd⟩).run P w = .ok (.value (.string (str (l ++ m)))) w := by
  have h := run_string_add_lists (P := P) w l m (by omega) (by omega)
  have he : (eqGuard .add xt x y (.string (str l)) (.string (str m))).run P w = .ok () w := by unfold eqGuard; simp
  have hb : (binOp .add xt (.string (str l)) (.string (str m))).run P w = .ok (.string (str (l ++ m))) w := by simpa [binOp, str] using h
  simp only [execOp, hx, hy, Sem.run_bind, he, Result.andThen_ok, hb, Sem.run_pure]
theorem q_sadd {xt yt : TypeId} {x y : Operand} {l m : List UInt8} (h : LW P n ops Q rest (upd ρ d (.string (str (l ++ m)))) w) (hx : ev ρ x = .string (str l) := by rfl) (hy : ev ρ y = .string (str m) := by rfl) (hl : l.length + m.length ≤ 1000000 := by first | omega | (simp [*]; omega))
    (hd : Nat.blt d n = true := by rfl) (hw : Wanted ops ρ gd := by first | exact .none | exact .some ⟨_, rfl, rfl⟩) :
    LW P n ops Q (⟨some d, .binOp .add xt x y yt, T, p, af, gd⟩ :: rest) ρ w := lw_value hw hd (x_sadd hx hy hl) h
theorem x_seq_t {xt yt : TypeId} {x y : Operand} {a b : ByteArray} (hx : ev ρ x = .string a := by rfl) (hy : ev ρ y = .string b := by rfl) (hp : a.data.toList = b.data.toList := by first | rfl | assumption | (simp only [str_data]; first | rfl | assumption | (simp [*] <;> fail))) :
    (execOp (ev ρ) ⟨some d, .binOp .eql xt x y yt, T, p, af, gd⟩).run P w = .ok (.value (.bool true)) w := x_str2 (by rw [run_seq, decide_eq_true hp]) hx hy
theorem x_seq_f {xt yt : TypeId} {x y : Operand} {a b : ByteArray} (hx : ev ρ x = .string a := by rfl) (hy : ev ρ y = .string b := by rfl) (hp : a.data.toList ≠ b.data.toList := by first | assumption | (simp only [str_data]; first | assumption | (simp [*] <;> fail))) :
    (execOp (ev ρ) ⟨some d, .binOp .eql xt x y yt, T, p, af, gd⟩).run P w = .ok (.value (.bool false)) w := x_str2 (by rw [run_seq, decide_eq_false hp]) hx hy
theorem q_steq_t {xt yt : TypeId} {x y : Operand} {a b : ByteArray} (h : LW P n ops Q rest (upd ρ d (.bool true)) w) (hx : ev ρ x = .string a := by rfl) (hy : ev ρ y = .string b := by rfl) (hp : a.data.toList = b.data.toList := by first | rfl | assumption | (simp only [str_data]; first | rfl | assumption | (simp [*] <;> fail))) (hd : Nat.blt d n = true := by rfl) (hw : Wanted ops ρ gd := by first | exact .none | exact .some ⟨_, rfl, rfl⟩) :
    LW P n ops Q (⟨some d, .binOp .eql xt x y yt, T, p, af, gd⟩ :: rest) ρ w := lw_value hw hd (x_seq_t hx hy hp) h
theorem q_steq_f {xt yt : TypeId} {x y : Operand} {a b : ByteArray} (h : LW P n ops Q rest (upd ρ d (.bool false)) w) (hx : ev ρ x = .string a := by rfl) (hy : ev ρ y = .string b := by rfl) (hp : a.data.toList ≠ b.data.toList := by first | assumption | (simp only [str_data]; first | assumption | (simp [*] <;> fail))) (hd : Nat.blt d n = true := by rfl) (hw : Wanted ops ρ gd := by first | exact .none | exact .some ⟨_, rfl, rfl⟩) :
    LW P n ops Q (⟨some d, .binOp .eql xt x y yt, T, p, af, gd⟩ :: rest) ρ w := lw_value hw hd (x_seq_f hx hy hp) h
theorem q_stne_t {xt yt : TypeId} {x y : Operand} {a b : ByteArray} (h : LW P n ops Q rest (upd ρ d (.bool true)) w) (hx : ev ρ x = .string a := by rfl) (hy : ev ρ y = .string b := by rfl) (hp : a.data.toList ≠ b.data.toList := by first | assumption | (simp only [str_data]; first | assumption | (simp [*] <;> fail))) (hd : Nat.blt d n = true := by rfl) (hw : Wanted ops ρ gd := by first | exact .none | exact .some ⟨_, rfl, rfl⟩) :
    LW P n ops Q (⟨some d, .binOp .neq xt x y yt, T, p, af, gd⟩ :: rest) ρ w := lw_value hw hd (x_str2 (r := .bool true) (by rw [run_sne, decide_eq_false hp]; rfl) hx hy) h
theorem q_stne_f {xt yt : TypeId} {x y : Operand} {a b : ByteArray} (h : LW P n ops Q rest (upd ρ d (.bool false)) w) (hx : ev ρ x = .string a := by rfl) (hy : ev ρ y = .string b := by rfl) (hp : a.data.toList = b.data.toList := by first | rfl | assumption | (simp only [str_data]; first | rfl | assumption | (simp [*] <;> fail))) (hd : Nat.blt d n = true := by rfl) (hw : Wanted ops ρ gd := by first | exact .none | exact .some ⟨_, rfl, rfl⟩) :
    LW P n ops Q (⟨some d, .binOp .neq xt x y yt, T, p, af, gd⟩ :: rest) ρ w := lw_value hw hd (x_str2 (r := .bool false) (by rw [run_sne, decide_eq_true hp]; rfl) hx hy) h
end
end Go.Proofs.Ytbdkicmdidcdcaa
namespace Go.Proofs.Ytbdkicmdidcdcaa
open Go.RowKit

/-- What is read, apart from F. -/
def RdAll (F : Nat → Prop) (w : World) : List (Value × List UInt8) → Prop
  | [] => True
  | (v, l) :: r => (RB w v l ∧ ∀ k, v.ownBlock = some k → ¬ F k) ∧ RdAll F w r
def TriR (P : Program) (f : FuncId) (args : List Value) (reads : List (Value × List UInt8)) (pre : List Res) (w : World) (post : Value → List Res → Prop) : Prop :=
  ∀ F, Sep pre F w → RdAll F w reads → Calls P f args.toArray w fun e w' => ∃ v L, e = .returned v ∧ post v L ∧ St F w L w'
theorem TriR.of {P : Program} {w : World} {f : FuncId} {args : List Value} {reads : List (Value × List UInt8)} {pre : List Res} {post : Value → List Res → Prop} (h : ∀ F, RdAll F w reads → St F w pre w → Calls P f args.toArray w fun e w' => ∃ v L, e = .returned v ∧ post v L ∧ St F w L w') : TriR P f args reads pre w post := fun F hF hr => h F hr (St.start hF)
/-- Where something that is read comes from. -/
inductive Src (S : Nat → Prop) (w0 : World) (M : List Res) : Value → List UInt8 → Prop
  | nil : Src S w0 M (.slice none 0 0) []
  | own {v : Value} {l : List UInt8} {M' : List Res} : Take M (bsl v l) M' → Src S w0 M v l
  | rd {v : Value} {l : List UInt8} {M' : List Res} : Take M (brd v l) M' → Src S w0 M v l
  | cell {g m : Nat} {l : List UInt8} {t : TypeId} {fz : Nat × Nat} {M' : List Res} : Take M (.pt g (.cells (bs l).toArray t fz)) M' → l.length = m → m ≤ 1000000000 → Src S w0 M (.slice (some ⟨g, 0, none⟩) m m) l
  | sub {v v' : Value} {l l' : List UInt8} : Src S w0 M v l → (∀ w, RB w v l → RB w v' l') → v'.ownBlock = v.ownBlock → Src S w0 M v' l'
  | ext {v : Value} {l : List UInt8} : RB w0 v l → (∀ k, v.ownBlock = some k → ¬ S k) → Src S w0 M v l
theorem Take.own' {M M' : List Res} {R : Res} (t : Take M R M') {F : Nat → Prop} {w : World} (h : Sep M F w) : ∃ A, R.own A w ∧ ∀ k, A k → F k := by
  obtain ⟨A, B, h1, _, h3, _⟩ := t.sep h
  exact ⟨A, h3, fun k hk => (h1 k).2 (.inl hk)⟩
theorem Src.get {S : Nat → Prop} {w0 w : World} {M : List Res} {v : Value} {l : List UInt8} (h : Src S w0 M v l) {A B : Nat → Prop} (hB : Sep M B w) (hAB : ∀ k, A k → ¬ B k) (hA : ∀ k, A k → S k ∨ w0.heap.size ≤ k) (hf : Fr S w0 w) : RB w v l ∧ ∀ k, v.ownBlock = some k → ¬ A k := by
  induction h with
  | nil => exact ⟨RB.nil w, fun k e => by simp [Value.ownBlock] at e⟩
  | own t =>
    obtain ⟨C, ⟨c1, c2⟩, c3⟩ := t.own' hB
    exact ⟨c2.rd, fun k e ha => hAB k ha (c3 k ((c1 k).2 e))⟩
  | rd t =>
    obtain ⟨C, ⟨c1, c2⟩, c3⟩ := t.own' hB
    exact ⟨c2, fun k e ha => hAB k ha (c3 k ((c1 k).2 e))⟩
  | cell t h1 h2 =>
    obtain ⟨C, ⟨c1, c2⟩, c3⟩ := t.own' hB
    refine ⟨RB.of_heap _ c2 h1 h2, fun k e ha => hAB k ha (c3 k ((c1 k).2 ?_))⟩
    simp [Value.ownBlock] at e; exact e.symm
  | sub _ h1 h2 ih => exact ⟨h1 w ih.1, by rw [h2]; exact ih.2⟩
  | ext h1 h2 =>
    refine ⟨Rd.fr h1 hf h2, fun k e ha => ?_⟩
    rcases hA k ha with hs | hle
    · exact h2 k e hs
    · have := h1.lt k e; omega
def Srcs (S : Nat → Prop) (w0 : World) (M : List Res) : List (Value × List UInt8) → Prop
  | [] => True
  | (v, l) :: r => Src S w0 M v l ∧ Srcs S w0 M r
theorem Srcs.nil {S : Nat → Prop} {w0 : World} {M : List Res} : Srcs S w0 M [] := trivial
theorem Srcs.cons {S : Nat → Prop} {w0 : World} {M : List Res} {v : Value} {l : List UInt8} {r : List (Value × List UInt8)} (h : Src S w0 M v l) (k : Srcs S w0 M r) : Srcs S w0 M ((v, l) :: r) := ⟨h, k⟩
theorem Srcs.get {S : Nat → Prop} {w0 w : World} {M : List Res} : ∀ {r : List (Value × List UInt8)} (_ : Srcs S w0 M r) {A B : Nat → Prop} (_ : Sep M B w) (_ : ∀ k, A k → ¬ B k) (_ : ∀ k, A k → S k ∨ w0.heap.size ≤ k) (_ : Fr S w0 w), RdAll A w r
  | [], _, _, _, _, _, _, _ => trivial
  | (_, _) :: _, ⟨h1, h2⟩, _, _, hB, hAB, hA, hf => ⟨h1.get hB hAB hA hf, Srcs.get h2 hB hAB hA hf⟩
section
variable {P : Program} {n : Nat} {Q : Post} {ρ : Env} {w : World} {ops : Array Oper} {rest : List Oper} {d : Nat} {T : TypeId} {p : String} {af : Array Edge} {gd : Option (Nat × Bool)}
variable {S : Nat → Prop} {w0 : World} {L M : List Res}
theorem q_triR {f : FuncId} {xs : Array Operand} {tys : Array TypeId} {args : List Value} {reads : List (Value × List UInt8)} {pre : List Res} {dst : Option Nat} {post : Value → List Res → Prop} (H : St S w0 L w) (hc : TriR P f args reads pre w post)
    (h : ∀ v L' w', post v L' → St S w0 (L' ++ M) w' → LW P n ops Q rest (pu ρ dst v) w')
    (t : TakeAll L pre M := by repeat (first | exact TakeAll.nil | apply TakeAll.cons | exact Take.z | apply Take.s))
    (hr : Srcs S w0 M reads := by repeat (first | exact Srcs.nil | refine Srcs.cons ?_ ?_ | exact Src.nil | exact Src.own .z | exact Src.own (.s .z) | exact Src.own (.s (.s .z)) | exact Src.own (.s (.s (.s .z))) | exact Src.own (.s (.s (.s (.s .z)))) | exact Src.rd .z | exact Src.rd (.s .z) | exact Src.rd (.s (.s .z)) | exact Src.rd (.s (.s (.s .z))) | exact Src.rd (.s (.s (.s (.s .z)))) | exact Src.ext (by assumption) (by assumption) | exact Src.ext (by assumption) (fun _ _ h => h)))
    (ha : xs.toList.map (ev ρ) = args := by rfl) (hf : callable P f = true := by kernel_rfl) (hd : within n dst = true := by rfl) (hw : Wanted ops ρ gd := by first | exact .none | exact .some ⟨_, rfl, rfl⟩) :
    LW P n ops Q (⟨dst, .call { callee := .value (.func f), args := xs, argTypes := tys }, T, p, af, gd⟩ :: rest) ρ w := by
  obtain ⟨F, h1, h2, h3⟩ := H
  obtain ⟨A, B, a1, a2, a3, a4⟩ := (t.sep h1).split
  refine lw_enter hw hd (run_call hf ha w) (hc A a3 (hr.get a4 a2 (fun k hk => h3 k ((a1 k).2 (.inl hk))) h2)) ?_
  rintro _ w' ⟨v, L', rfl, hp, G, g1, g2, g3⟩
  refine ⟨v, rfl, h v L' w' hp ⟨_, g1.append (a4.keep fun k hk => g2.block k (a4.lt hk) fun ha => a2 k ha hk) ?_, h2.trans g2 ?_, ?_⟩⟩
  · intro k hg hb
    rcases g3 k hg with ha | hle
    · exact a2 k ha hb
    · have := a4.lt hb; omega
  · intro k hk ha
    exact (h3 k ((a1 k).2 (.inl ha))).resolve_right (by omega)
  · rintro k (hg | hb)
    · rcases g3 k hg with ha | hle
      · exact h3 k ((a1 k).2 (.inl ha))
      · exact .inr (Nat.le_trans h2.size hle)
    · exact h3 k ((a1 k).2 (.inr hb))
end
end Go.Proofs.Ytbdkicmdidcdcaa
namespace Go.Proofs.Ytbdkicmdidcdcaa
open Go.RowKit

section
variable {P : Program} {n : Nat} {Q : Post} {ρ : Env} {w : World} {ops : Array Oper} {rest : List Oper} {d : Nat} {T : TypeId} {p : String} {af : Array Edge} {gd : Option (Nat × Bool)}
theorem built_arr {t m e : Nat} {z l : List Value} [ha : ArrOf P t m e 1] [hz : ZeroOf P t z] {parts : List (Nat × Value)} (h : Instr.fill (fun i => some (i * 1, 1)) z.toArray parts = some l.toArray) : P.built t parts = some l.toArray := by
  have hz' := hz.zero
  have hs := ha.size
  unfold Program.built
  cases hq : P.info? t with
  | none => simp [hq] at hz'
  | some it =>
    cases hq2 : it.zero with
    | none => simp [hq, hq2] at hz'
    | some u =>
      cases hq3 : P.info? e with
      | none => simp [hq3] at hs
      | some ie =>
        have h1 : ie.size = 1 := by simpa [hq3] using hs
        have h2 : u.cells = z.toArray := by simpa [hq, hq2] using hz'
        simp only [ha.und, hq2, hq3, h1, h2, h]
theorem q_buildB0 {t m e : Nat} [ha : ArrOf P t m e 1] [hz : ZeroOf P t (bs (List.replicate m 0))] (h : LW P n ops Q rest (upd ρ d (.agg (bs (List.replicate m 0)).toArray)) w)
    (hd : Nat.blt d n = true := by rfl) (hw : Wanted ops ρ gd := by first | exact .none | exact .some ⟨_, rfl, rfl⟩) :
    LW P n ops Q (⟨some d, .build t #[], T, p, af, gd⟩ :: rest) ρ w :=
  lw_value hw hd (w' := w) (by
    have hb := built_arr (P := P) (t := t) (z := bs (List.replicate m 0)) (l := bs (List.replicate m 0)) (parts := []) rfl
    have := run_build (P := P) w t #[] _ hb
    simp only [execOp, Sem.run_bind, List.map_toArray, List.map_nil, this, Result.andThen_ok, Sem.run_pure]) h
theorem fill_one {v : Value} {l : List Value} {i : Nat} (hv : v.cells = #[v]) (hi : i < l.length) (rest : List (Nat × Value)) : Instr.fill (fun i => some (i * 1, 1)) l.toArray ((i, v) :: rest) = Instr.fill (fun i => some (i * 1, 1)) (l.set i v).toArray rest := by
  simp only [Instr.fill, hv]
  rw [if_neg (by simp; omega)]
  congr 1
  simp
theorem bs_setQ (l : List UInt8) (i : Nat) (b : UInt8) : (bs l).set i (.int .u8 (by8 b)) = bs (l.set i b) := by unfold bs; rw [List.map_set]
theorem q_buildB1 {t m e i : Nat} {x : Operand} {b : UInt8} [ha : ArrOf P t m e 1] [hz : ZeroOf P t (bs (List.replicate m 0))] (h : LW P n ops Q rest (upd ρ d (.agg (bs ((List.replicate m 0).set i b)).toArray)) w)
    (hx : ev ρ x = .int .u8 (by8 b) := by rfl) (hi : i < m := by decide) (hd : Nat.blt d n = true := by rfl) (hw : Wanted ops ρ gd := by first | exact .none | exact .some ⟨_, rfl, rfl⟩) :
    LW P n ops Q (⟨some d, .build t #[(i, x)], T, p, af, gd⟩ :: rest) ρ w :=
  lw_value hw hd (w' := w) (by
    have hb := built_arr (P := P) (t := t) (z := bs (List.replicate m 0)) (l := bs ((List.replicate m 0).set i b)) (parts := [(i, .int .u8 (by8 b))]) (by
      rw [fill_one rfl (by simpa [bs_length] using hi), bs_setQ]; rfl)
    have := run_build (P := P) w t #[(i, .int .u8 (by8 b))] _ hb
    simp only [execOp, Sem.run_bind, List.map_toArray, List.map_cons, List.map_nil, hx, this, Result.andThen_ok, Sem.run_pure]) h
theorem q_buildB2 {t m e i j : Nat} {x y : Operand} {b c : UInt8} [ha : ArrOf P t m e 1] [hz : ZeroOf P t (bs (List.replicate m 0))] (h : LW P n ops Q rest (upd ρ d (.agg (bs (((List.replicate m 0).set i b).set j c)).toArray)) w)
    (hx : ev ρ x = .int .u8 (by8 b) := by rfl) (hy : ev ρ y = .int .u8 (by8 c) := by rfl) (hi : i < m := by decide) (hj : j < m := by decide) (hd : Nat.blt d n = true := by rfl) (hw : Wanted ops ρ gd := by first | exact .none | exact .some ⟨_, rfl, rfl⟩) :
    LW P n ops Q (⟨some d, .build t #[(i, x), (j, y)], T, p, af, gd⟩ :: rest) ρ w :=
  lw_value hw hd (w' := w) (by
    have hb := built_arr (P := P) (t := t) (z := bs (List.replicate m 0)) (l := bs (((List.replicate m 0).set i b).set j c)) (parts := [(i, .int .u8 (by8 b)), (j, .int .u8 (by8 c))]) (by
      rw [fill_one rfl (by simpa [bs_length] using hi), bs_setQ, fill_one rfl (by simpa [bs_length] using hj), bs_setQ]; rfl)
    have := run_build (P := P) w t #[(i, .int .u8 (by8 b)), (j, .int .u8 (by8 c))] _ hb
    simp only [execOp, Sem.run_bind, List.map_toArray, List.map_cons, List.map_nil, hx, hy, this, Result.andThen_ok, Sem.run_pure]) h
end
end Go.Proofs.Ytbdkicmdidcdcaa
namespace Go.Proofs.Ytbdkicmdidcdcaa
open Go.RowKit

section
variable {P : Program} {n : Nat} {Q : Post} {ρ : Env} {ops : Array Oper} {S : World → Prop} {fuel : Nat} {listed : Array Bool} {o : Oper} {w : World}
variable {S' : Nat → Prop} {w0 : World} {L M : List Res}
theorem Hold.put {g : Nat} {x : Obj} {l : List (Nat × Obj)} (H : St S' w0 L w) (k : Hold l w) (t : Take L (.pt g x) M := by first | exact .z | exact .s .z | exact .s (.s .z) | exact .s (.s (.s .z)) | exact .s (.s (.s (.s .z))) | exact .s (.s (.s (.s (.s .z)))) | exact .s (.s (.s (.s (.s (.s .z))))) | exact .s (.s (.s (.s (.s (.s (.s .z)))))) | exact .s (.s (.s (.s (.s (.s (.s (.s .z))))))) | exact .s (.s (.s (.s (.s (.s (.s (.s (.s .z)))))))) | exact .s (.s (.s (.s (.s (.s (.s (.s (.s (.s .z))))))))) | exact .s (.s (.s (.s (.s (.s (.s (.s (.s (.s (.s .z)))))))))) | exact .s (.s (.s (.s (.s (.s (.s (.s (.s (.s (.s (.s .z))))))))))) | exact .s (.s (.s (.s (.s (.s (.s (.s (.s (.s (.s (.s (.s .z)))))))))))) | exact .s (.s (.s (.s (.s (.s (.s (.s (.s (.s (.s (.s (.s (.s .z))))))))))))) | exact .s (.s (.s (.s (.s (.s (.s (.s (.s (.s (.s (.s (.s (.s (.s .z)))))))))))))) | exact .s (.s (.s (.s (.s (.s (.s (.s (.s (.s (.s (.s (.s (.s (.s (.s .z))))))))))))))) | exact .s (.s (.s (.s (.s (.s (.s (.s (.s (.s (.s (.s (.s (.s (.s (.s (.s .z)))))))))))))))) | exact .s (.s (.s (.s (.s (.s (.s (.s (.s (.s (.s (.s (.s (.s (.s (.s (.s (.s .z))))))))))))))))) | exact .s (.s (.s (.s (.s (.s (.s (.s (.s (.s (.s (.s (.s (.s (.s (.s (.s (.s (.s .z)))))))))))))))))) | exact .s (.s (.s (.s (.s (.s (.s (.s (.s (.s (.s (.s (.s (.s (.s (.s (.s (.s (.s (.s .z))))))))))))))))))) | exact .s (.s (.s (.s (.s (.s (.s (.s (.s (.s (.s (.s (.s (.s (.s (.s (.s (.s (.s (.s (.s .z))))))))))))))))))))) : Hold ((g, x) :: l) w := Hold.cons (H.blk t) k
theorem HoldB.putB {v : Value} {l : List UInt8} {r : List (Value × List UInt8)} (H : St S' w0 L w) (k : HoldB r w) (t : Take L (bsl v l) M := by first | exact .z | exact .s .z | exact .s (.s .z) | exact .s (.s (.s .z)) | exact .s (.s (.s (.s .z))) | exact .s (.s (.s (.s (.s .z)))) | exact .s (.s (.s (.s (.s (.s .z))))) | exact .s (.s (.s (.s (.s (.s (.s .z)))))) | exact .s (.s (.s (.s (.s (.s (.s (.s .z))))))) | exact .s (.s (.s (.s (.s (.s (.s (.s (.s .z)))))))) | exact .s (.s (.s (.s (.s (.s (.s (.s (.s (.s .z))))))))) | exact .s (.s (.s (.s (.s (.s (.s (.s (.s (.s (.s .z)))))))))) | exact .s (.s (.s (.s (.s (.s (.s (.s (.s (.s (.s (.s .z))))))))))) | exact .s (.s (.s (.s (.s (.s (.s (.s (.s (.s (.s (.s (.s .z)))))))))))) | exact .s (.s (.s (.s (.s (.s (.s (.s (.s (.s (.s (.s (.s (.s .z))))))))))))) | exact .s (.s (.s (.s (.s (.s (.s (.s (.s (.s (.s (.s (.s (.s (.s .z)))))))))))))) | exact .s (.s (.s (.s (.s (.s (.s (.s (.s (.s (.s (.s (.s (.s (.s (.s .z))))))))))))))) | exact .s (.s (.s (.s (.s (.s (.s (.s (.s (.s (.s (.s (.s (.s (.s (.s (.s .z)))))))))))))))) | exact .s (.s (.s (.s (.s (.s (.s (.s (.s (.s (.s (.s (.s (.s (.s (.s (.s (.s .z))))))))))))))))) | exact .s (.s (.s (.s (.s (.s (.s (.s (.s (.s (.s (.s (.s (.s (.s (.s (.s (.s (.s .z)))))))))))))))))) | exact .s (.s (.s (.s (.s (.s (.s (.s (.s (.s (.s (.s (.s (.s (.s (.s (.s (.s (.s (.s .z))))))))))))))))))) | exact .s (.s (.s (.s (.s (.s (.s (.s (.s (.s (.s (.s (.s (.s (.s (.s (.s (.s (.s (.s (.s .z))))))))))))))))))))) : HoldB ((v, l) :: r) w := HoldB.cons (H.rbB t) k
theorem HoldB.putR {v : Value} {l : List UInt8} {r : List (Value × List UInt8)} (H : St S' w0 L w) (k : HoldB r w) (t : Take L (brd v l) M := by first | exact .z | exact .s .z | exact .s (.s .z) | exact .s (.s (.s .z)) | exact .s (.s (.s (.s .z))) | exact .s (.s (.s (.s (.s .z)))) | exact .s (.s (.s (.s (.s (.s .z))))) | exact .s (.s (.s (.s (.s (.s (.s .z)))))) | exact .s (.s (.s (.s (.s (.s (.s (.s .z))))))) | exact .s (.s (.s (.s (.s (.s (.s (.s (.s .z)))))))) | exact .s (.s (.s (.s (.s (.s (.s (.s (.s (.s .z))))))))) | exact .s (.s (.s (.s (.s (.s (.s (.s (.s (.s (.s .z)))))))))) | exact .s (.s (.s (.s (.s (.s (.s (.s (.s (.s (.s (.s .z))))))))))) | exact .s (.s (.s (.s (.s (.s (.s (.s (.s (.s (.s (.s (.s .z)))))))))))) | exact .s (.s (.s (.s (.s (.s (.s (.s (.s (.s (.s (.s (.s (.s .z))))))))))))) | exact .s (.s (.s (.s (.s (.s (.s (.s (.s (.s (.s (.s (.s (.s (.s .z)))))))))))))) | exact .s (.s (.s (.s (.s (.s (.s (.s (.s (.s (.s (.s (.s (.s (.s (.s .z))))))))))))))) | exact .s (.s (.s (.s (.s (.s (.s (.s (.s (.s (.s (.s (.s (.s (.s (.s (.s .z)))))))))))))))) | exact .s (.s (.s (.s (.s (.s (.s (.s (.s (.s (.s (.s (.s (.s (.s (.s (.s (.s .z))))))))))))))))) | exact .s (.s (.s (.s (.s (.s (.s (.s (.s (.s (.s (.s (.s (.s (.s (.s (.s (.s (.s .z)))))))))))))))))) | exact .s (.s (.s (.s (.s (.s (.s (.s (.s (.s (.s (.s (.s (.s (.s (.s (.s (.s (.s (.s .z))))))))))))))))))) | exact .s (.s (.s (.s (.s (.s (.s (.s (.s (.s (.s (.s (.s (.s (.s (.s (.s (.s (.s (.s (.s .z))))))))))))))))))))) : HoldB ((v, l) :: r) w := HoldB.cons (H.rbR t) k
theorem HoldB.putE {v : Value} {l : List UInt8} {r : List (Value × List UInt8)} (H : St (fun _ => False) w0 L w) (h : RB w0 v l) (k : HoldB r w) : HoldB ((v, l) :: r) w := HoldB.cons (h.no H.fr) k
theorem HoldB.putX {v : Value} {l : List UInt8} {r : List (Value × List UInt8)} (H : St S' w0 L w) (h : RB w0 v l) (hn : ∀ k, v.ownBlock = some k → ¬ S' k) (k : HoldB r w) : HoldB ((v, l) :: r) w := HoldB.cons (H.rb h hn) k
theorem r_takeX (i : Nat) {v : Value} {d : Nat} (h : RW P n ops Q S fuel (listed.setIfInBounds i true) (upd ρ d v) w) (hi : ops[i]? = some o := by rfl) (ho : o.dst = some d := by rfl)
    (hr : ∀ w, S w → (execOp (ev ρ) o).run P w = .ok (.value v) w := by intro w hS; first | exact x_ldB hS.1 | exact x_ldW hS.1 | exact x_ldC hS.1 | exact x_ldB hS.2.1 | exact x_ldW hS.2.1 | exact x_ldC hS.2.1 | exact x_ldB hS.2.2.1 | exact x_ldW hS.2.2.1 | exact x_ldC hS.2.2.1 | exact x_ldB hS.2.2.2.1 | exact x_ldW hS.2.2.2.1 | exact x_ldC hS.2.2.2.1 | exact x_ldB hS.1.1 | exact x_ldW hS.1.1 | exact x_ldC hS.1.1 | exact x_ldB hS.1.2.1 | exact x_ldW hS.1.2.1 | exact x_ldC hS.1.2.1 | exact x_ldB hS.1.2.2.1 | exact x_ldW hS.1.2.2.1 | exact x_ldC hS.1.2.2.1 | exact x_ldB hS.1.2.2.2.1 | exact x_ldW hS.1.2.2.2.1 | exact x_ldC hS.1.2.2.2.1 | exact x_str hS.1 | exact x_str hS.2.1 | exact x_str hS.2.2.1 | exact x_str hS.2.2.2.1 | exact x_str hS.2.2.2.2.1 | exact x_seq_t | exact x_sadd | exact x_seq_f | exact x_move | exact x_assign | exact x_pick_t | exact x_pick_f | exact x_add64 | exact x_sub64 | exact x_mul64 | exact x_quo64 | exact x_rem64 | exact x_shr | exact x_conv64 | exact x_not_t | exact x_not_f | exact x_extract | exact x_nilCheck | exact x_field | exact x_fieldO | exact x_len | exact x_lenStr | exact x_sliceArr | exact x_partC | exact x_nil_eq_f | exact x_nil_eq_t | exact x_nil_ne_t | exact x_nil_ne_f | exact x_idxS | exact x_idxA | exact x_arrTo | exact x_arrFrom | exact x_u8u64 | exact x_lt_t | exact x_le_t | exact x_gt_t | exact x_ge_t | exact x_eq_t | exact x_ne_t | exact x_lt_f | exact x_le_f | exact x_gt_f | exact x_ge_f | exact x_eq_f | exact x_ne_f)
    (hd : Nat.blt d n = true := by rfl) (hw : Wanted ops ρ o.guard := by first | exact .none | exact .some ⟨_, rfl, rfl⟩) (hQ : ∀ c ρ w, Q (.panic c) ρ w → False := by intro _ _ _ h; exact h)
    (hs : Region.noSelect ops = true := by kernel_rfl) (hfr : Region.free .any ops listed i = true := by kernel_rfl) (hrd : (Region.ready .any ops listed).contains i = true := by kernel_rfl) : RW P n ops Q S (fuel + 1) listed ρ w := r_take i hi ho hr h hd hw hQ hs hfr hrd
theorem holdS {S : World → Prop} {w : World} (h : S w := by repeat (first | exact Hold.nil | exact HoldB.nil | refine Hold2.mk ?_ ?_ | refine Hold.put (by assumption) ?_ | refine HoldB.putE (by assumption) (by assumption) ?_ | refine HoldB.putX (by assumption) (by assumption) (by assumption) ?_ | refine HoldB.putB (by assumption) ?_ | refine HoldB.putR (by assumption) ?_)) : S w := h
theorem r_nextS (h2 : RW P n ops Q S fuel listed ρ w) (h1 : S w := by repeat (first | exact Hold.nil | exact HoldB.nil | refine Hold2.mk ?_ ?_ | refine Hold.put (by assumption) ?_ | refine HoldB.putE (by assumption) (by assumption) ?_ | refine HoldB.putX (by assumption) (by assumption) (by assumption) ?_ | refine HoldB.putB (by assumption) ?_ | refine HoldB.putR (by assumption) ?_)) : OpPost P n ops Q S fuel listed .normal ρ w := ⟨h1, h2⟩
end
section
variable {A : Type} {G : A → Env → World → Prop} {x : A} {ρ : Env} {w : World} {S : Nat → Prop} {w0 : World} {L L' : List Res} {C : World → Prop}
/-- The walk, as far as nothing has to be said. -/
theorem go_W (H : St S w0 L w) (h : ∀ w, St S w0 L' w → C w) (k : (∀ w, St S w0 L' w → C w) → ∀ w, St S w0 L w → G x ρ w := by intro h w H; (repeat (first | (refine g_lw ?_; (first | refine q_move ?_ | refine q_assign ?_ | refine q_nil ?_ | (refine g_bin ?_; (first | refine q_add64 ?_ | refine q_sub64 ?_ | refine q_mul64 ?_ | refine q_quo64 ?_ | refine q_rem64 ?_ | refine q_shr ?_ | refine q_nil_eq_f ?_ | refine q_nil_eq_t ?_ | refine q_nil_ne_t ?_ | refine q_nil_ne_f ?_ | refine q_snil_eq_f ?_ | refine q_snil_eq_t ?_ | refine q_snil_ne_t ?_ | refine q_snil_ne_f ?_ | refine q_xor8 ?_ | refine q_lt_t ?_ | refine q_lt_f ?_ | refine q_le_t ?_ | refine q_le_f ?_ | refine q_gt_t ?_ | refine q_gt_f ?_ | refine q_ge_t ?_ | refine q_ge_f ?_ | refine q_eq_t ?_ | refine q_eq_f ?_ | refine q_ne_t ?_ | refine q_ne_f ?_ | refine q_steq_t ?_ | refine q_steq_f ?_ | refine q_stne_t ?_ | refine q_stne_f ?_ | refine q_sadd ?_)) | (refine g_load ?_; (first | refine q_load H ?_ | refine q_loadW H ?_ | refine q_loadB H ?_)) | (refine g_store ?_; (first | (refine q_storeB H ?_; clear H; intro w H) | (refine q_store H ?_; clear H; intro w H) | (refine q_storeW H ?_; clear H; intro w H))) | refine q_nilCheck ?_ | refine q_field ?_ | refine q_fieldO ?_ | refine q_idxA ?_ | refine q_idxS ?_ | refine q_pick_t ?_ | refine q_pick_f ?_ | refine q_off ?_ | refine q_off_none ?_ | refine q_offU ?_ | refine q_offU_none ?_ | refine q_extract ?_ | refine q_not_t ?_ | refine q_not_f ?_ | refine q_partC ?_ | (refine g_conv ?_; (first | refine q_conv64 ?_ | refine q_u8u64 ?_)) | (refine g_call ?_; (first | refine q_len ?_ | refine q_lenStr ?_)) | (refine g_slice ?_; (first | refine q_sliceArr ?_ | refine q_arrTo ?_ | refine q_arrFrom ?_)))) | (refine g_cw ?_; (first | refine q_seq ?_ | refine q_region ?_ | refine q_block ?_ | refine q_cond_true rfl ?_ | refine q_cond_false rfl ?_ | refine q_skip ?_ | refine q_exit ?_ | refine q_ret ?_)) | refine q_then ?_ | refine q_in ?_ | refine q_in_hit ?_ | refine q_in_miss ?_ | refine q_in_ret ?_ | refine q_then_exit ?_ | refine q_then_ret ?_ | refine q_rnd ?_)); exact h _ H) : G x ρ w := k h w H
end
end Go.Proofs.Ytbdkicmdidcdcaa
