/-
  Slices that are read and slices that may be appended to, worlds that differ at some blocks alone; 'append' for all of them. Plain laws over any program.
-/
import Derived.WalkKit
import Derived.Deep.AppendSrc
import Derived.Deep.Quiet
import Derived.KernelRfl
namespace Go.Proofs.Ytgbfbijjbkfglaa
open Go.RowKit

/-- A byte, a word as a number: behind a name, so that the walk leaves them whole. -/
def by8 (b : UInt8) : Int := b.toNat
def wd (x : UInt32) : Int := x.toNat
def wq (x : UInt64) : Int := x.toNat
theorem by8_lt (b : UInt8) : 0 ≤ by8 b ∧ by8 b ≤ 255 := by have := b.toNat_lt; unfold by8; omega
theorem by8_inj {a b : UInt8} (h : by8 a = by8 b) : a = b := UInt8.toNat_inj.1 (by unfold by8 at h; omega)

/-- The cells of bytes. -/
def bs (l : List UInt8) : List Value := l.map fun b => .int .u8 (by8 b)
theorem bs_length (l : List UInt8) : (bs l).length = l.length := by simp [bs]
theorem bs_append (a b : List UInt8) : bs (a ++ b) = bs a ++ bs b := by simp [bs]
theorem bs_one {l : List UInt8} : ∀ u ∈ bs l, u.oneCell' = true := by
  intro u hu
  obtain ⟨_, _, rfl⟩ := List.mem_map.1 hu
  rfl
theorem bs_get (l : List UInt8) (j : Nat) : (bs l)[j]? = (l[j]?).map fun b => .int .u8 (by8 b) := by simp [bs]

theorem ret_int {k : IntKind} {a b : Int} (h : a = b) : Ending.returned (.int k a) = .returned (.int k b) := by rw [h]
theorem ret_bool {a b : Bool} (h : a = b) : Ending.returned (.bool a) = .returned (.bool b) := by rw [h]

/-- Worlds that differ at blocks of S alone (and by new blocks). -/
structure Fr (S : Nat → Prop) (w w' : World) : Prop where
  os : w'.os = w.os
  tape : w'.tape = w.tape
  output : w'.output = w.output
  size : w.heap.size ≤ w'.heap.size
  block : ∀ k, k < w.heap.size → ¬ S k → w'.heap[k]? = w.heap[k]?

theorem Fr.refl (S : Nat → Prop) (w : World) : Fr S w w := ⟨rfl, rfl, rfl, Nat.le_refl _, fun _ _ _ => rfl⟩
theorem Fr.trans {S T : Nat → Prop} {a b c : World} (h : Fr S a b) (k : Fr T b c) (hT : ∀ i, i < a.heap.size → T i → S i) : Fr S a c :=
  ⟨k.os.trans h.os, k.tape.trans h.tape, k.output.trans h.output, Nat.le_trans h.size k.size, fun i hi hs =>
    (k.block i (Nat.lt_of_lt_of_le hi h.size) (fun ht => hs (hT i hi ht))).trans (h.block i hi hs)⟩
theorem Fr.mono {S T : Nat → Prop} {w w' : World} (h : Fr S w w') (hs : ∀ i, i < w.heap.size → S i → T i) : Fr T w w' :=
  ⟨h.os, h.tape, h.output, h.size, fun k hk hn => h.block k hk (fun a => hn (hs k hk a))⟩
theorem Fr.drew {S : Nat → Prop} {a w : World} (h : Fr S a w) : Fr S a w.drew := ⟨h.os, h.tape, h.output, h.size, h.block⟩
theorem Fr.drewN {S : Nat → Prop} {a w : World} (h : Fr S a w) (n : Nat) : Fr S a (w.drewN n) := ⟨h.os, h.tape, h.output, h.size, h.block⟩
theorem Fr.alloc {S : Nat → Prop} {a w : World} (h : Fr S a w) (o : Obj) : Fr S a (w.alloc o) :=
  ⟨h.os, h.tape, h.output, by have := h.size; simp; omega, fun k hk hn => (Below.heap_alloc _ _ _ (Nat.lt_of_lt_of_le hk h.size)).trans (h.block k hk hn)⟩
theorem Fr.setCell {S : Nat → Prop} {a w : World} (h : Fr S a w) (p : Addr) (u : Value) (hp : p.block < a.heap.size → S p.block) : Fr S a (w.setCell p u) :=
  ⟨h.os, h.tape, h.output, by have := h.size; simp [World.setCell]; omega, fun k hk hn =>
    (Below.heap_setCell _ _ _ _ (fun e => hn (by rw [e]; exact hp (by omega)))).trans (h.block k hk hn)⟩
theorem Fr.setRow {S : Nat → Prop} {a w : World} (h : Fr S a w) (g : Nat) (cs : Array Value) (hp : g < a.heap.size → S g) : Fr S a (w.setRow g cs) :=
  ⟨h.os, h.tape, h.output, by have := h.size; simp; omega, fun k hk hn =>
    (setRow_other _ _ _ _ (fun e => hn (by rw [e]; exact hp (by omega)))).trans (h.block k hk hn)⟩
theorem Fr.of_grown {w w' : World} {row : Option Nat} (h : w.grownBy w' row) : Fr (fun k => some k = row) w w' :=
  ⟨h.os, h.tape, h.output, h.size, fun k hk hn => h.block k hk hn⟩
theorem Fr.of_below {w w' : World} {B : Nat} (h : Below B w w') : Fr (fun k => B ≤ k) w w' :=
  ⟨h.os, h.tape, h.output, h.size, fun k _ hn => h.block k (by omega)⟩
theorem Fr.below {S : Nat → Prop} {w w' : World} (h : Fr S w w') (B : Nat) (hB : B ≤ w.heap.size) (hs : ∀ k, S k → B ≤ k) : Below B w w' :=
  ⟨h.os, h.tape, h.output, h.size, fun k hk => h.block k (by omega) (fun a => by have := hs k a; omega)⟩
theorem Fr.heap {S : Nat → Prop} {w w' : World} (h : Fr S w w') {g : Nat} {o : Obj} (hg : w.heap[g]? = some o) (hn : ¬ S g) : w'.heap[g]? = some o :=
  (h.block g (Array.getElem?_eq_some_iff.1 hg).1 hn).trans hg
theorem Fr.cell {S : Nat → Prop} {w w' : World} (h : Fr S w w') {p : Addr} (hp : p.block < w.heap.size) (hn : ¬ S p.block) : w'.cell? p = w.cell? p :=
  World.cell?_of_block (w := w) (h.block p.block hp hn)
theorem Fr.frozen {S : Nat → Prop} {w w' : World} (h : Fr S w w') {p : Addr} (hp : p.block < w.heap.size) (hn : ¬ S p.block) : w'.frozen? p = w.frozen? p :=
  World.frozen?_of_block (w := w) (h.block p.block hp hn)

/-- No block but new ones. -/
abbrev No (w w' : World) : Prop := Fr (fun _ => False) w w'
theorem lt_of_heap {w : World} {g : Nat} {o : Obj} (hg : w.heap[g]? = some o) : g < w.heap.size := (Array.getElem?_eq_some_iff.1 hg).1

/-- The slice v has n elements of s cells each, which are xs. -/
def Rd (s : Nat) (w : World) (v : Value) (n : Nat) (xs : List Value) : Prop :=
  xs.length = n * s ∧ (∀ u ∈ xs, u.oneCell' = true) ∧
  ((v = .slice none 0 0 ∧ n = 0) ∨
   ∃ g off cap cur e fz, v = .slice (some ⟨g, off, none⟩) n cap ∧ w.heap[g]? = some (.cells cur e fz) ∧ (cur.toList.drop off).take (n * s) = xs ∧ n ≤ cap ∧ cap ≤ maxLen)

/-- .. and it may be appended to: it is full, or its row is one from 'base' on. -/
def Ow (base s : Nat) (w : World) (v : Value) (n : Nat) (xs : List Value) : Prop :=
  xs.length = n * s ∧ (∀ u ∈ xs, u.oneCell' = true) ∧
  ((v = .slice none 0 0 ∧ n = 0) ∨
   ∃ g off cap cur e fz, v = .slice (some ⟨g, off, none⟩) n cap ∧ w.heap[g]? = some (.cells cur e fz) ∧ (cur.toList.drop off).take (n * s) = xs ∧ n ≤ cap ∧ cap ≤ maxLen ∧
     (cap = n ∨ (base ≤ g ∧ fz = (0, 0) ∧ off + cap * s ≤ cur.size)))

section
variable {base s : Nat} {w w' : World} {v : Value} {n : Nat} {xs : List Value}

theorem Ow.rd (h : Ow base s w v n xs) : Rd s w v n xs := by
  obtain ⟨h1, h2, h3 | ⟨g, off, cap, cur, e, fz, a, b, c, d, e', _⟩⟩ := h
  · exact ⟨h1, h2, .inl h3⟩
  · exact ⟨h1, h2, .inr ⟨g, off, cap, cur, e, fz, a, b, c, d, e'⟩⟩

theorem Ow.nil (base s : Nat) (w : World) : Ow base s w (.slice none 0 0) 0 [] := ⟨by simp, by simp, .inl ⟨rfl, rfl⟩⟩
theorem Rd.nil (s : Nat) (w : World) : Rd s w (.slice none 0 0) 0 [] := ⟨by simp, by simp, .inl ⟨rfl, rfl⟩⟩
theorem Rd.isNil (h : Rd s w (.slice none 0 0) n xs) : n = 0 ∧ xs = [] := by
  obtain ⟨h1, _, ⟨_, h3⟩ | ⟨g, off, cap, cur, e, fz, a, _⟩⟩ := h
  · subst h3; exact ⟨rfl, List.eq_nil_of_length_eq_zero (by simpa using h1)⟩
  · simp at a

theorem Rd.keep (h : Rd s w v n xs) (hk : ∀ k, v.ownBlock = some k → w'.heap[k]? = w.heap[k]?) : Rd s w' v n xs := by
  obtain ⟨h1, h2, h3 | ⟨g, off, cap, cur, e, fz, rfl, b, c, d⟩⟩ := h
  · exact ⟨h1, h2, .inl h3⟩
  · exact ⟨h1, h2, .inr ⟨g, off, cap, cur, e, fz, rfl, (hk g rfl).trans b, c, d⟩⟩
theorem Ow.keep (h : Ow base s w v n xs) (hk : ∀ k, v.ownBlock = some k → w'.heap[k]? = w.heap[k]?) : Ow base s w' v n xs := by
  obtain ⟨h1, h2, h3 | ⟨g, off, cap, cur, e, fz, rfl, b, c, d⟩⟩ := h
  · exact ⟨h1, h2, .inl h3⟩
  · exact ⟨h1, h2, .inr ⟨g, off, cap, cur, e, fz, rfl, (hk g rfl).trans b, c, d⟩⟩
theorem Rd.lt (h : Rd s w v n xs) : ∀ k, v.ownBlock = some k → k < w.heap.size := by
  obtain ⟨h1, h2, ⟨rfl, _⟩ | ⟨g, off, cap, cur, e, fz, rfl, b, c, d⟩⟩ := h
  · intro k hk; simp [Value.ownBlock] at hk
  · intro k hk; simp [Value.ownBlock] at hk; subst hk; exact lt_of_heap b
theorem Rd.fr {S : Nat → Prop} (h : Rd s w v n xs) (hf : Fr S w w') (hn : ∀ k, v.ownBlock = some k → ¬ S k) : Rd s w' v n xs :=
  h.keep fun k hk => hf.block k (h.lt k hk) (hn k hk)
theorem Ow.fr {S : Nat → Prop} (h : Ow base s w v n xs) (hf : Fr S w w') (hn : ∀ k, v.ownBlock = some k → ¬ S k) : Ow base s w' v n xs :=
  h.keep fun k hk => hf.block k (h.rd.lt k hk) (hn k hk)
theorem Rd.no (h : Rd s w v n xs) (hf : No w w') : Rd s w' v n xs := h.fr hf fun _ _ => id
theorem Ow.no (h : Ow base s w v n xs) (hf : No w w') : Ow base s w' v n xs := h.fr hf fun _ _ => id
theorem Rd.alloc (h : Rd s w v n xs) (o : Obj) : Rd s (w.alloc o) v n xs := h.no ((Fr.refl _ _).alloc o)
theorem Ow.alloc (h : Ow base s w v n xs) (o : Obj) : Ow base s (w.alloc o) v n xs := h.no ((Fr.refl _ _).alloc o)
theorem Rd.drew (h : Rd s w v n xs) : Rd s w.drew v n xs := h.no (Fr.refl _ _).drew
theorem Ow.drew (h : Ow base s w v n xs) : Ow base s w.drew v n xs := h.no (Fr.refl _ _).drew

/-- Its cells, one by one. -/
theorem Rd.cellAt {g off cap : Nat} (h : Rd s w (.slice (some ⟨g, off, none⟩) n cap) n xs) (j : Nat) : ∀ u, xs[j]? = some u → w.cell? ⟨g, off + j, none⟩ = some u := by
  obtain ⟨h1, h2, ⟨h3, _⟩ | ⟨g', off', cap', cur, e, fz, hv, b, c, d⟩⟩ := h
  · cases h3
  · obtain ⟨⟨rfl, rfl⟩, rfl⟩ : (g = g' ∧ off = off') ∧ cap = cap' := by simpa using hv
    intro u hu
    rw [cell_of_row w g (off + j) cur e fz b]
    rw [← c, List.getElem?_take] at hu
    split at hu
    · rw [List.getElem?_drop] at hu; simpa using hu
    · cases hu
theorem Rd.shape (h : Rd s w v n xs) : (v = .slice none 0 0 ∧ n = 0 ∧ xs = []) ∨ ∃ g off cap, v = .slice (some ⟨g, off, none⟩) n cap ∧ n ≤ cap ∧ cap ≤ maxLen ∧ g < w.heap.size := by
  obtain ⟨h1, h2, ⟨rfl, rfl⟩ | ⟨g, off, cap, cur, e, fz, rfl, b, c, d, d'⟩⟩ := h
  · exact .inl ⟨rfl, rfl, List.eq_nil_of_length_eq_zero (by simpa using h1)⟩
  · exact .inr ⟨g, off, cap, rfl, d, d', lt_of_heap b⟩
theorem Rd.len (h : Rd s w v n xs) : xs.length = n * s := h.1

theorem addr_add (g off j : Nat) : (⟨g, off, none⟩ : Addr).add j = ⟨g, off + j, none⟩ := by unfold Addr.add; split <;> simp_all

/-- What is read may be appended. -/
theorem Rd.src {P : Program} {tx e' : TypeId} (hk : P.underlying tx = some (.slice e')) (h : Rd s w v n xs) : Src P s tx v n xs w := by
  have hc := fun {g off cap : Nat} (e : v = .slice (some ⟨g, off, none⟩) n cap) => Rd.cellAt (e ▸ h)
  rcases h.shape with ⟨rfl, rfl, rfl⟩ | ⟨g, off, cap, rfl, _⟩
  · exact Src.ofNil w hk 0
  · exact Src.ofSlice w hk ⟨g, off, none⟩ n cap xs h.1 (fun j u hu => by rw [addr_add]; exact hc rfl j u hu) h.2.1

/-- 'append': v' and w' are not known, but what they are good for. -/
theorem run_append_ow {P : Program} (t tx ty e : TypeId) (i : TypeInfo) (z : Value) (bytes : Nat) (ht : P.underlying t = some (.slice e)) (hi : P.info? e = some i) (hz : i.zero = some z)
    (hsize : i.size = s) (hby : i.bytes = bytes) (hzs : z.cells.size = s) (h : Ow base s w v n xs)
    (x : Value) (m : Nat) (news : List Value) (hs : Src P s tx x m news w)
    (h63 : n + m ≤ maxLen) (hbytes : (n + m) * bytes ≤ 140737488355328) (hbase : base ≤ w.heap.size) :
    ∃ v' w', (Builtin.append_ #[t, tx] ty #[v, x]).run P w = .ok v' w' ∧ Ow base s w' v' (n + m) (xs ++ news) ∧ w.grownBy w' v.ownBlock ∧
      (v'.ownBlock = v.ownBlock ∨ ∃ k, v'.ownBlock = some k ∧ w.heap.size ≤ k) ∧ (v' = .slice none 0 0 ↔ v = .slice none 0 0 ∧ m = 0) := by
  subst hsize hby
  have hm0 : m = 0 → news = [] := fun e => List.eq_nil_of_length_eq_zero (by rw [hs.newsLen, e]; simp)
  have hone : ∀ u ∈ xs ++ news, u.oneCell' = true := fun u hu => by
    rcases List.mem_append.1 hu with hu | hu
    · exact h.2.1 u hu
    · exact hs.one u hu
  have hlen : (xs ++ news).length = (n + m) * i.size := by rw [List.length_append, h.1, hs.newsLen, Nat.add_mul]
  have grow : ∀ (bs : Option Addr) (cap : Nat), cap < n + m → (Builtin.firstCells i.size n (.slice bs n cap)).run P w.drew = .ok xs.toArray w.drew →
      ∃ v' w', (Builtin.append_ #[t, tx] ty #[.slice bs n cap, x]).run P w = .ok v' w' ∧ Ow base i.size w' v' (n + m) (xs ++ news) ∧ w.grownBy w' (Value.ownBlock (.slice bs n cap)) ∧
      (v'.ownBlock = Value.ownBlock (.slice bs n cap) ∨ ∃ k, v'.ownBlock = some k ∧ w.heap.size ≤ k) ∧ (∃ a c, v' = .slice (some a) (n + m) c) := by
    intro bs cap hcap hold
    have hr := run_append_grow_src w t tx ty e i z ht hi hz bs n cap xs hold x m news hs hcap (by simp only [maxLen] at h63; omega) (growslice_fits hcap hbytes)
    have hge := grownCap_ge w (n + m) cap e
    have hcm := grownCap_le_maxLen w (n + m) cap e h63
    refine ⟨_, _, hr, ⟨hlen, hone, .inr ⟨w.heap.size, 0, _, _, _, _, rfl, heap_alloc_new w.drew _, ?_, hge, hcm, .inr ⟨hbase, rfl, ?_⟩⟩⟩, ⟨rfl, rfl, rfl, by simp, fun k hk _ => Below.heap_alloc w.drew _ k hk⟩, .inr ⟨_, rfl, Nat.le_refl _⟩, _, _, rfl⟩
    · simp only [Array.toList_append, List.drop_zero]
      rw [← hlen]
      exact List.take_left
    · simp only [Array.size_append, List.size_toArray, size_zeroCells, hzs, hlen, ← Nat.add_mul, Nat.zero_add]
      exact Nat.mul_le_mul_right _ (by omega)
  obtain ⟨h1, h2, ⟨rfl, rfl⟩ | ⟨g, off, cap, cur, e', fz, rfl, hg, hx, hnc, hcm, ho⟩⟩ := h
  · have hx : xs = [] := List.eq_nil_of_length_eq_zero (by simpa using h1)
    subst hx
    by_cases hm : m = 0
    · have hn := hm0 hm
      subst hm hn
      refine ⟨.slice none 0 0, w, ?_, ⟨by simp, by simp, .inl ⟨rfl, rfl⟩⟩, ⟨rfl, rfl, rfl, Nat.le_refl _, fun _ _ _ => rfl⟩, .inl rfl, by simp⟩
      have hst := hs.cells
      rcases hs.kind with ⟨e', hk⟩ | hk <;> simp [Builtin.append_, run_underlying ht, run_underlying hk, sizeOf, typeInfo, hi, hs.len, hst]
    · obtain ⟨v', w', a, b, c, d, _, _, rfl⟩ := grow none 0 (by omega) (run_firstCells_none w.drew _ _ _ _)
      exact ⟨_, _, a, b, c, d, by simp [hm]⟩
  · by_cases hroom : n + m ≤ cap
    · by_cases hm : m = 0
      · have hn := hm0 hm
        subst hm hn
        refine ⟨.slice (some ⟨g, off, none⟩) n cap, w, ?_, ?_, ⟨rfl, rfl, rfl, Nat.le_refl _, fun _ _ _ => rfl⟩, .inl rfl, by simp⟩
        · have hst := hs.cells
          rcases hs.kind with ⟨e', hk⟩ | hk <;> simp [Builtin.append_, run_underlying ht, run_underlying hk, sizeOf, typeInfo, hi, hs.len, hst, hnc, storeCells]
        · rw [List.append_nil]; exact ⟨h1, h2, .inr ⟨g, off, cap, cur, e', fz, rfl, hg, hx, hnc, hcm, ho⟩⟩
      · rcases ho with rfl | ⟨hbg, rfl, hfit⟩
        · omega
        · have hfit' : off + n * i.size + news.length ≤ cur.size := by
            have := Nat.mul_le_mul_right i.size hroom
            rw [hs.newsLen]; rw [Nat.add_mul] at this; omega
          have hst := run_storeCells_at P g (off + n * i.size) e' news 0 cur w hg (by simpa using hfit') hs.one
          simp only [Nat.add_zero] at hst
          refine ⟨.slice (some ⟨g, off, none⟩) (n + m) cap, w.setRow g (cur.toList.take (off + n * i.size) ++ news ++ cur.toList.drop (off + n * i.size + news.length)).toArray, ?_, ⟨hlen, hone, .inr ⟨g, off, cap, _, e', (0, 0), rfl, setRow_heap w g cur _ e' _ hg, ?_, hroom, hcm, .inr ⟨hbg, rfl, ?_⟩⟩⟩,
            ⟨rfl, rfl, rfl, by simp, fun k _ hk => setRow_other w g k _ (fun e => hk (by simp [Value.ownBlock, e]))⟩, .inl rfl, by simp⟩
          · rcases hs.kind with ⟨e', hk⟩ | hk <;> simp [Builtin.append_, run_underlying ht, run_underlying hk, sizeOf, typeInfo, hi, hs.len, hroom, hs.cells, Addr.add_lit, hst]
          · have hoff : off + n * i.size ≤ cur.toList.length := by simp; omega
            have e1 : ((cur.toList.take (off + n * i.size) ++ news ++ cur.toList.drop (off + n * i.size + news.length)).drop off) = (cur.toList.drop off).take (n * i.size) ++ news ++ cur.toList.drop (off + n * i.size + news.length) := by
              rw [List.append_assoc, List.drop_append_of_le_length (by rw [List.length_take]; omega), List.drop_take]
              simp [List.append_assoc]
            simp only [e1, hx]
            rw [← hlen]
            exact List.take_left
          · simp only [List.size_toArray, List.length_append, List.length_take, List.length_drop, Array.length_toList]
            omega
    · obtain ⟨v', w', a, b, c, d, _, _, rfl⟩ := grow (some ⟨g, off, none⟩) cap (by omega)
        (run_firstCells_some w.drew i.size n ⟨g, off, none⟩ n cap xs h1 (fun j u hu => by
          rw [addr_add]
          exact (Rd.cellAt (w := w.drew) (s := i.size) ⟨h1, h2, .inr ⟨g, off, cap, cur, e', fz, rfl, hg, hx, hnc, hcm⟩⟩ j u hu)))
      exact ⟨_, _, a, b, c, d, by simp⟩

/-- .. at the operation. -/
theorem wpList_append_ow {P : Program} {ops : Array Oper} {rest : List Oper} {o : Oper} {a : Act} {Q : Exit → Act → World → Prop} (hgd : o.guard = none) (sa x : Operand) (t tx : TypeId)
    (ho : o.op = .call { callee := .builtin .append, args := #[sa, x], argTypes := #[t, tx] })
    (e : TypeId) (i : TypeInfo) (z : Value) (bytes : Nat) (ht : P.underlying t = some (.slice e)) (hi : P.info? e = some i) (hz : i.zero = some z)
    (hsize : i.size = s) (hby : i.bytes = bytes) (hzs : z.cells.size = s) (h : Ow base s w v n xs) (hv : a.eval sa = v)
    (xv : Value) (hx : a.eval x = xv) (m : Nat) (news : List Value) (hs : Src P s tx xv m news w)
    (h63 : n + m ≤ maxLen) (hbytes : (n + m) * bytes ≤ 140737488355328) (hbase : base ≤ w.heap.size)
    (hk : ∀ v' w', Ow base s w' v' (n + m) (xs ++ news) → w.grownBy w' v.ownBlock → (v'.ownBlock = v.ownBlock ∨ ∃ k, v'.ownBlock = some k ∧ w.heap.size ≤ k) → (v' = .slice none 0 0 ↔ v = .slice none 0 0 ∧ m = 0) →
      wpList P ops Q rest (a.put o.dst v') w') : wpList P ops Q (o :: rest) a w := by
  refine wpList_plain hgd fun K hK => ?_
  obtain ⟨v', w', hr, h2, h3, h4, h5⟩ := run_append_ow (P := P) t tx o.type e i z bytes ht hi hz hsize hby hzs h xv m news hs h63 hbytes hbase
  unfold Oper.wp execOp
  simp only [ho, resolve, invoke, builtin, Sem.run_bind, Sem.run_pure, Result.andThen_ok, List.map_toArray, List.map_cons, List.map_nil, hv, hx, hr]
  exact hK _ _ (hk v' w' h2 h3 h4 h5)
end

/-- From v in w to v' in w': only v's own block may have been written; v' lies there, or in a new one. -/
structure Gw (w : World) (v : Value) (w' : World) (v' : Value) : Prop where
  fr : Fr (fun k => some k = v.ownBlock) w w'
  own : v'.ownBlock = v.ownBlock ∨ ∃ k, v'.ownBlock = some k ∧ w.heap.size ≤ k
theorem Gw.refl (w : World) (v : Value) : Gw w v w v := ⟨Fr.refl _ _, .inl rfl⟩
theorem Gw.trans {w w1 w2 : World} {v v1 v2 : Value} (h : Gw w v w1 v1) (k : Gw w1 v1 w2 v2) : Gw w v w2 v2 := by
  refine ⟨h.fr.trans k.fr fun i hi e => ?_, ?_⟩
  · rcases h.own with ho | ⟨j, ho, hj⟩
    · rw [← ho]; exact e
    · rw [ho] at e; simp at e; omega
  · rcases k.own with ko | ⟨j, ko, hj⟩
    · rw [ko]; exact h.own
    · exact .inr ⟨j, ko, Nat.le_trans h.fr.size hj⟩
theorem Gw.new {w w1 w2 : World} {v v2 : Value} (h : No w w1) (k : Gw w1 v w2 v2) : Gw w v w2 v2 :=
  ⟨(h.mono (T := fun k => some k = v.ownBlock) (fun _ _ a => a.elim)).trans k.fr fun _ _ e => e, by
    rcases k.own with ko | ⟨j, ko, hj⟩
    · exact .inl ko
    · exact .inr ⟨j, ko, Nat.le_trans h.size hj⟩⟩
theorem Gw.no {w w1 w2 : World} {v v1 : Value} (h : Gw w v w1 v1) (k : No w1 w2) : Gw w v w2 v1 := ⟨h.fr.trans k fun _ _ a => a.elim, h.own⟩
/-- What does not lie in v's block is as it was. -/
theorem Gw.heap {w w' : World} {v v' : Value} (h : Gw w v w' v') {g : Nat} {o : Obj} (hg : w.heap[g]? = some o) (hn : v.ownBlock ≠ some g) : w'.heap[g]? = some o :=
  h.fr.heap hg fun e => hn e.symm
theorem Gw.below {w w' : World} {v v' : Value} (h : Gw w v w' v') (B : Nat) (hB : B ≤ w.heap.size) (hv : ∀ k, v.ownBlock = some k → B ≤ k) : Below B w w' :=
  h.fr.below B hB fun k e => hv k e.symm
theorem No.of_gw_nil {w w' : World} {v' : Value} (h : Gw w (.slice none 0 0) w' v') : No w w' := h.fr.mono fun _ _ e => by simp [Value.ownBlock] at e

section
variable {base s : Nat} {w w' : World} {v : Value} {n : Nat} {xs : List Value}
/-- One element of one cell, which lies in a new block. -/
theorem Src.one {P : Program} {tx e' : TypeId} (hk : P.underlying tx = some (.slice e')) (w : World) (x : Value) (e : TypeId) (hx : x.oneCell' = true) :
    Src P 1 tx (.slice (some ⟨w.heap.size, 0, none⟩) 1 1) 1 [x] (w.alloc (.cells #[x] e)) :=
  Src.ofSlice _ hk _ 1 1 [x] rfl (fun j u hu => by
    match j, hu with
    | 0, hu => simp at hu; subst hu; rw [addr_add, cell_of_row _ _ _ _ _ _ (heap_alloc_new w _)]; rfl
    | j + 1, hu => simp at hu) (fun u hu => by simp at hu; subst hu; exact hx)

/-- 'append(v, x)', x of one cell. -/
theorem wpList_append_one {P : Program} {ops : Array Oper} {rest : List Oper} {o : Oper} {a : Act} {Q : Exit → Act → World → Prop} (hgd : o.guard = none) (sa x : Operand) (t : TypeId)
    (ho : o.op = .call { callee := .builtin .append, args := #[sa, x], argTypes := #[t, t] })
    (e : TypeId) (i : TypeInfo) (z : Value) (bytes : Nat) (ht : P.underlying t = some (.slice e)) (hi : P.info? e = some i) (hz : i.zero = some z)
    (hsize : i.size = 1) (hby : i.bytes = bytes) (hzs : z.cells.size = 1) (h : Ow base 1 w v n xs) (hv : a.eval sa = v)
    (xc : Value) (e2 : TypeId) (hx : a.eval x = .slice (some ⟨w.heap.size, 0, none⟩) 1 1) (h1 : xc.oneCell' = true)
    (h63 : n + 1 ≤ maxLen) (hbytes : (n + 1) * bytes ≤ 140737488355328) (hbase : base ≤ w.heap.size)
    (hk : ∀ v' w', Ow base 1 w' v' (n + 1) (xs ++ [xc]) → Gw w v w' v' → wpList P ops Q rest (a.put o.dst v') w') : wpList P ops Q (o :: rest) a (w.alloc (.cells #[xc] e2)) := by
  refine wpList_append_ow hgd sa x t t ho e i z bytes ht hi hz hsize hby hzs (h.alloc _) hv _ hx 1 [xc] (Src.one ht w xc e2 h1) h63 hbytes (by simp; omega) fun v' w' a b c _ => ?_
  exact hk v' w' a (Gw.new ((Fr.refl _ _).alloc _) ⟨Fr.of_grown b, c⟩)

/-- Bytes: a slice of bytes that is read; that may be appended to. -/
def RB (w : World) (v : Value) (l : List UInt8) : Prop := Rd 1 w v l.length (bs l)
def OB (base : Nat) (w : World) (v : Value) (l : List UInt8) : Prop := Ow base 1 w v l.length (bs l)
theorem OB.rb {l : List UInt8} (h : OB base w v l) : RB w v l := Ow.rd h
theorem OB.nil (base : Nat) (w : World) : OB base w (.slice none 0 0) [] := Ow.nil _ _ _
theorem RB.nil (w : World) : RB w (.slice none 0 0) [] := Rd.nil _ _
theorem OB.of {l : List UInt8} {n : Nat} {xs : List Value} (h : Ow base 1 w v n xs) (hn : n = l.length) (hx : xs = bs l) : OB base w v l := by subst hn hx; exact h
theorem OB.no {l : List UInt8} (h : OB base w v l) (hf : No w w') : OB base w' v l := Ow.no h hf
theorem RB.no {l : List UInt8} (h : RB w v l) (hf : No w w') : RB w' v l := Rd.no h hf
theorem OB.alloc {l : List UInt8} (h : OB base w v l) (o : Obj) : OB base (w.alloc o) v l := Ow.alloc h o
theorem RB.alloc {l : List UInt8} (h : RB w v l) (o : Obj) : RB (w.alloc o) v l := Rd.alloc h o

theorem wpList_append_byte {P : Program} {ops : Array Oper} {rest : List Oper} {o : Oper} {a : Act} {Q : Exit → Act → World → Prop} (hgd : o.guard = none) (sa x : Operand) (t : TypeId)
    (ho : o.op = .call { callee := .builtin .append, args := #[sa, x], argTypes := #[t, t] })
    (e : TypeId) (ht : P.underlying t = some (.slice e)) (hi : (P.info? e).map (fun i => (i.zero, i.size, i.bytes)) = some (some (.int .u8 0), 1, 1))
    {l : List UInt8} (h : OB base w v l) (hv : a.eval sa = v)
    (xc : Value) (e2 : TypeId) (hx : a.eval x = .slice (some ⟨w.heap.size, 0, none⟩) 1 1) (c : UInt8) (hc : xc = .int .u8 (by8 c))
    (hl : l.length ≤ 100000000000) (hbase : base ≤ w.heap.size)
    (hk : ∀ v' w', OB base w' v' (l ++ [c]) → Gw w v w' v' → wpList P ops Q rest (a.put o.dst v') w') : wpList P ops Q (o :: rest) a (w.alloc (.cells #[xc] e2)) := by
  obtain ⟨i, hi, hz, hs, hb⟩ := info_parts hi
  subst hc
  exact wpList_append_one hgd sa x t ho e i _ 1 ht hi hz hs hb rfl h hv _ e2 hx rfl (by unfold maxLen; omega) (by omega) hbase fun v' w' p q => hk v' w' (OB.of p (by simp) (by simp [bs])) q

theorem wpList_append_bytes {P : Program} {ops : Array Oper} {rest : List Oper} {o : Oper} {a : Act} {Q : Exit → Act → World → Prop} (hgd : o.guard = none) (sa x : Operand) (t tx : TypeId)
    (ho : o.op = .call { callee := .builtin .append, args := #[sa, x], argTypes := #[t, tx] })
    (e : TypeId) (ht : P.underlying t = some (.slice e)) (hi : (P.info? e).map (fun i => (i.zero, i.size, i.bytes)) = some (some (.int .u8 0), 1, 1))
    {l : List UInt8} (h : OB base w v l) (hv : a.eval sa = v)
    (xv : Value) (hx : a.eval x = xv) (m : List UInt8) (hs : Src P 1 tx xv m.length (bs m) w)
    (hl : l.length + m.length ≤ 100000000000) (hbase : base ≤ w.heap.size)
    (hk : ∀ v' w', OB base w' v' (l ++ m) → Gw w v w' v' → (v' = .slice none 0 0 ↔ v = .slice none 0 0 ∧ m.length = 0) → wpList P ops Q rest (a.put o.dst v') w') : wpList P ops Q (o :: rest) a w := by
  obtain ⟨i, hi, hz, hsz, hb⟩ := info_parts hi
  exact wpList_append_ow hgd sa x t tx ho e i _ 1 ht hi hz hsz hb rfl h hv xv hx m.length (bs m) hs (by unfold maxLen; omega) (by omega) hbase
    fun v' w' p q r r' => hk v' w' (OB.of p (by simp) (by simp [bs])) ⟨Fr.of_grown q, r⟩ r'
theorem RB.src {P : Program} {tx e' : TypeId} (hk : P.underlying tx = some (.slice e')) {l : List UInt8} (h : RB w v l) : Src P 1 tx v l.length (bs l) w := Rd.src hk h
theorem Src.text {P : Program} {tx : TypeId} (hk : P.underlying tx = some .string) (b : ByteArray) (w : World) : Src P 1 tx (.string b) b.data.toList.length (bs b.data.toList) w := by
  have := Src.ofString (P := P) w hk b
  rwa [show b.size = b.data.toList.length from by rw [Array.length_toList]; rfl, show byteCells b = bs b.data.toList from rfl] at this
end
end Go.Proofs.Ytgbfbijjbkfglaa
