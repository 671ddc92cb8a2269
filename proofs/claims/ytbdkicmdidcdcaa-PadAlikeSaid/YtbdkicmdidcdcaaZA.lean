/-
  Slices that are read and slices that may be appended to, worlds that differ at some blocks alone; 'append' for all of them. Plain laws over any program. Words of 8, 32 and 64 bits as the walk writes them. Arrays that lie in a block: loaded whole, stored whole, at whatever place. How long a slice is; States under frames. 'append' inside a region that draws its order. Arguments of a row: numbers, bytes. Plain laws over any program. Numbers as bytes: the plain functions, and what is said of them. num.Put, and the document's Put: both write the same bytes.
-/
import Derived.WalkKit
import Derived.Deep.AppendSrc
import Derived.Deep.Quiet
import Derived.KernelRfl
import Derived.Lib.Hide
import Derived.Deep.QuietTactic
import Derived.BigQuiet
import Derived.StillTailTactics
import Derived.Deep.RegionLaw
import Derived.ProofKit
import Derived.OpenShut
import Derived.ChangeSlices
import Derived.WideShapes
import Derived.RowKit
import Derived.Test.YtbdkicmdidcdcaaProg
namespace Go.Proofs.Ytbdkicmdidcdcaa
open Go.RowKit

/-- A byte, a word as a number: behind a name, so that the walk leaves them whole. -/
def by8 (b : UInt8) : Int := b.toNat
def wd (x : UInt32) : Int := x.toNat
def wq (x : UInt64) : Int := x.toNat
theorem by8_lt (b : UInt8) : 0 ≤ by8 b ∧ by8 b ≤ 255 := by have := b.toNat_lt; unfold by8; omega
theorem by8_inj {a b : UInt8} (h : by8 a = by8 b) : a = b := UInt8.toNat_inj.1 (by unfold by8 at h; omega)

/-- The cells of bytes. -/
def bs (l : List UInt8) : List Value := l.map fun b => .int .u8 (by8 b)
theorem bs_length (l : List UInt8) : (bs l).length = l.length := by simp [bs]
theorem bs_append (a b : List UInt8) : bs (a ++ b) = bs a ++ bs b := by simp [bs]
theorem bs_one {l : List UInt8} : ∀ u ∈ bs l, u.oneCell' = true := by
  intro u hu
  obtain ⟨_, _, rfl⟩ := List.mem_map.1 hu
  rfl
theorem bs_get (l : List UInt8) (j : Nat) : (bs l)[j]? = (l[j]?).map fun b => .int .u8 (by8 b) := by simp [bs]

theorem ret_int {k : IntKind} {a b : Int} (h : a = b) : Ending.returned (.int k a) = .returned (.int k b) := by rw [h]
theorem ret_bool {a b : Bool} (h : a = b) : Ending.returned (.bool a) = .returned (.bool b) := by rw [h]

/-- Worlds that differ at blocks of S alone (and by new blocks). -/
structure Fr (S : Nat → Prop) (w w' : World) : Prop where
  os : w'.os = w.os
  tape : w'.tape = w.tape
  output : w'.output = w.output
  size : w.heap.size ≤ w'.heap.size
  block : ∀ k, k < w.heap.size → ¬ S k → w'.heap[k]? = w.heap[k]?

theorem Fr.refl (S : Nat → Prop) (w : World) : Fr S w w := ⟨rfl, rfl, rfl, Nat.le_refl _, fun _ _ _ => rfl⟩
theorem Fr.trans {S T : Nat → Prop} {a b c : World} (h : Fr S a b) (k : Fr T b c) (hT : ∀ i, i < a.heap.size → T i → S i) : Fr S a c :=
  ⟨k.os.trans h.os, k.tape.trans h.tape, k.output.trans h.output, Nat.le_trans h.size k.size, fun i hi hs =>
    (k.block i (Nat.lt_of_lt_of_le hi h.size) (fun ht => hs (hT i hi ht))).trans (h.block i hi hs)⟩
theorem Fr.mono {S T : Nat → Prop} {w w' : World} (h : Fr S w w') (hs : ∀ i, i < w.heap.size → S i → T i) : Fr T w w' :=
  ⟨h.os, h.tape, h.output, h.size, fun k hk hn => h.block k hk (fun a => hn (hs k hk a))⟩
theorem Fr.drew {S : Nat → Prop} {a w : World} (h : Fr S a w) : Fr S a w.drew := ⟨h.os, h.tape, h.output, h.size, h.block⟩
theorem Fr.drewN {S : Nat → Prop} {a w : World} (h : Fr S a w) (n : Nat) : Fr S a (w.drewN n) := ⟨h.os, h.tape, h.output, h.size, h.block⟩
theorem Fr.alloc {S : Nat → Prop} {a w : World} (h : Fr S a w) (o : Obj) : Fr S a (w.alloc o) :=
  ⟨h.os, h.tape, h.output, by have := h.size; simp; omega, fun k hk hn => (Below.heap_alloc _ _ _ (Nat.lt_of_lt_of_le hk h.size)).trans (h.block k hk hn)⟩
theorem Fr.setCell {S : Nat → Prop} {a w : World} (h : Fr S a w) (p : Addr) (u : Value) (hp : p.block < a.heap.size → S p.block) : Fr S a (w.setCell p u) :=
  ⟨h.os, h.tape, h.output, by have := h.size; simp [World.setCell]; omega, fun k hk hn =>
    (Below.heap_setCell _ _ _ _ (fun e => hn (by rw [e]; exact hp (by omega)))).trans (h.block k hk hn)⟩
theorem Fr.setRow {S : Nat → Prop} {a w : World} (h : Fr S a w) (g : Nat) (cs : Array Value) (hp : g < a.heap.size → S g) : Fr S a (w.setRow g cs) :=
  ⟨h.os, h.tape, h.output, by have := h.size; simp; omega, fun k hk hn =>
    (setRow_other _ _ _ _ (fun e => hn (by rw [e]; exact hp (by omega)))).trans (h.block k hk hn)⟩
theorem Fr.of_grown {w w' : World} {row : Option Nat} (h : w.grownBy w' row) : Fr (fun k => some k = row) w w' :=
  ⟨h.os, h.tape, h.output, h.size, fun k hk hn => h.block k hk hn⟩
theorem Fr.of_below {w w' : World} {B : Nat} (h : Below B w w') : Fr (fun k => B ≤ k) w w' :=
  ⟨h.os, h.tape, h.output, h.size, fun k _ hn => h.block k (by omega)⟩
theorem Fr.below {S : Nat → Prop} {w w' : World} (h : Fr S w w') (B : Nat) (hB : B ≤ w.heap.size) (hs : ∀ k, S k → B ≤ k) : Below B w w' :=
  ⟨h.os, h.tape, h.output, h.size, fun k hk => h.block k (by omega) (fun a => by have := hs k a; omega)⟩
theorem Fr.heap {S : Nat → Prop} {w w' : World} (h : Fr S w w') {g : Nat} {o : Obj} (hg : w.heap[g]? = some o) (hn : ¬ S g) : w'.heap[g]? = some o :=
  (h.block g (Array.getElem?_eq_some_iff.1 hg).1 hn).trans hg
theorem Fr.cell {S : Nat → Prop} {w w' : World} (h : Fr S w w') {p : Addr} (hp : p.block < w.heap.size) (hn : ¬ S p.block) : w'.cell? p = w.cell? p :=
  World.cell?_of_block (w := w) (h.block p.block hp hn)
theorem Fr.frozen {S : Nat → Prop} {w w' : World} (h : Fr S w w') {p : Addr} (hp : p.block < w.heap.size) (hn : ¬ S p.block) : w'.frozen? p = w.frozen? p :=
  World.frozen?_of_block (w := w) (h.block p.block hp hn)

/-- No block but new ones. -/
abbrev No (w w' : World) : Prop := Fr (fun _ => False) w w'
theorem lt_of_heap {w : World} {g : Nat} {o : Obj} (hg : w.heap[g]? = some o) : g < w.heap.size := (Array.getElem?_eq_some_iff.1 hg).1

/-- The slice v has n elements of s cells each, which are xs. -/
def Rd (s : Nat) (w : World) (v : Value) (n : Nat) (xs : List Value) : Prop :=
  xs.length = n * s ∧ (∀ u ∈ xs, u.oneCell' = true) ∧
  ((v = .slice none 0 0 ∧ n = 0) ∨
   ∃ g off cap cur e fz, v = .slice (some ⟨g, off, none⟩) n cap ∧ w.heap[g]? = some (.cells cur e fz) ∧ (cur.toList.drop off).take (n * s) = xs ∧ n ≤ cap ∧ cap ≤ maxLen)

/-- .. and it may be appended to: it is full, or its row is one from 'base' on. -/
def Ow (base s : Nat) (w : World) (v : Value) (n : Nat) (xs : List Value) : Prop :=
  xs.length = n * s ∧ (∀ u ∈ xs, u.oneCell' = true) ∧
  ((v = .slice none 0 0 ∧ n = 0) ∨
   ∃ g off cap cur e fz, v = .slice (some ⟨g, off, none⟩) n cap ∧ w.heap[g]? = some (.cells cur e fz) ∧ (cur.toList.drop off).take (n * s) = xs ∧ n ≤ cap ∧ cap ≤ maxLen ∧
     (cap = n ∨ (base ≤ g ∧ fz = (0, 0) ∧ off + cap * s ≤ cur.size)))

section
variable {base s : Nat} {w w' : World} {v : Value} {n : Nat} {xs : List Value}

theorem Ow.rd (h : Ow base s w v n xs) : Rd s w v n xs := by
  obtain ⟨h1, h2, h3 | ⟨g, off, cap, cur, e, fz, a, b, c, d, e', _⟩⟩ := h
  · exact ⟨h1, h2, .inl h3⟩
  · exact ⟨h1, h2, .inr ⟨g, off, cap, cur, e, fz, a, b, c, d, e'⟩⟩

theorem Ow.nil (base s : Nat) (w : World) : Ow base s w (.slice none 0 0) 0 [] := ⟨by simp, by simp, .inl ⟨rfl, rfl⟩⟩
theorem Rd.nil (s : Nat) (w : World) : Rd s w (.slice none 0 0) 0 [] := ⟨by simp, by simp, .inl ⟨rfl, rfl⟩⟩
theorem Rd.isNil (h : Rd s w (.slice none 0 0) n xs) : n = 0 ∧ xs = [] := by
  obtain ⟨h1, _, ⟨_, h3⟩ | ⟨g, off, cap, cur, e, fz, a, _⟩⟩ := h
  · subst h3; exact ⟨rfl, List.eq_nil_of_length_eq_zero (by simpa using h1)⟩
  · simp at a

theorem Rd.keep (h : Rd s w v n xs) (hk : ∀ k, v.ownBlock = some k → w'.heap[k]? = w.heap[k]?) : Rd s w' v n xs := by
  obtain ⟨h1, h2, h3 | ⟨g, off, cap, cur, e, fz, rfl, b, c, d⟩⟩ := h
  · exact ⟨h1, h2, .inl h3⟩
  · exact ⟨h1, h2, .inr ⟨g, off, cap, cur, e, fz, rfl, (hk g rfl).trans b, c, d⟩⟩
theorem Ow.keep (h : Ow base s w v n xs) (hk : ∀ k, v.ownBlock = some k → w'.heap[k]? = w.heap[k]?) : Ow base s w' v n xs := by
  obtain ⟨h1, h2, h3 | ⟨g, off, cap, cur, e, fz, rfl, b, c, d⟩⟩ := h
  · exact ⟨h1, h2, .inl h3⟩
  · exact ⟨h1, h2, .inr ⟨g, off, cap, cur, e, fz, rfl, (hk g rfl).trans b, c, d⟩⟩
theorem Rd.lt (h : Rd s w v n xs) : ∀ k, v.ownBlock = some k → k < w.heap.size := by
  obtain ⟨h1, h2, ⟨rfl, _⟩ | ⟨g, off, cap, cur, e, fz, rfl, b, c, d⟩⟩ := h
  · intro k hk; simp [Value.ownBlock] at hk
  · intro k hk; simp [Value.ownBlock] at hk; subst hk; exact lt_of_heap b
theorem Rd.fr {S : Nat → Prop} (h : Rd s w v n xs) (hf : Fr S w w') (hn : ∀ k, v.ownBlock = some k → ¬ S k) : Rd s w' v n xs :=
  h.keep fun k hk => hf.block k (h.lt k hk) (hn k hk)
theorem Ow.fr {S : Nat → Prop} (h : Ow base s w v n xs) (hf : Fr S w w') (hn : ∀ k, v.ownBlock = some k → ¬ S k) : Ow base s w' v n xs :=
  h.keep fun k hk => hf.block k (h.rd.lt k hk) (hn k hk)
theorem Rd.no (h : Rd s w v n xs) (hf : No w w') : Rd s w' v n xs := h.fr hf fun _ _ => id
theorem Ow.no (h : Ow base s w v n xs) (hf : No w w') : Ow base s w' v n xs := h.fr hf fun _ _ => id
theorem Rd.alloc (h : Rd s w v n xs) (o : Obj) : Rd s (w.alloc o) v n xs := h.no ((Fr.refl _ _).alloc o)
theorem Ow.alloc (h : Ow base s w v n xs) (o : Obj) : Ow base s (w.alloc o) v n xs := h.no ((Fr.refl _ _).alloc o)
theorem Rd.drew (h : Rd s w v n xs) : Rd s w.drew v n xs := h.no (Fr.refl _ _).drew
theorem Ow.drew (h : Ow base s w v n xs) : Ow base s w.drew v n xs := h.no (Fr.refl _ _).drew

/-- Its cells, one by one. -/
theorem Rd.cellAt {g off cap : Nat} (h : Rd s w (.slice (some ⟨g, off, none⟩) n cap) n xs) (j : Nat) : ∀ u, xs[j]? = some u → w.cell? ⟨g, off + j, none⟩ = some u := by
  obtain ⟨h1, h2, ⟨h3, _⟩ | ⟨g', off', cap', cur, e, fz, hv, b, c, d⟩⟩ := h
  · cases h3
  · obtain ⟨⟨rfl, rfl⟩, rfl⟩ : (g = g' ∧ off = off') ∧ cap = cap' := by simpa using hv
    intro u hu
    rw [cell_of_row w g (off + j) cur e fz b]
    rw [← c, List.getElem?_take] at hu
    split at hu
    · rw [List.getElem?_drop] at hu; simpa using hu
    · cases hu
theorem Rd.shape (h : Rd s w v n xs) : (v = .slice none 0 0 ∧ n = 0 ∧ xs = []) ∨ ∃ g off cap, v = .slice (some ⟨g, off, none⟩) n cap ∧ n ≤ cap ∧ cap ≤ maxLen ∧ g < w.heap.size := by
  obtain ⟨h1, h2, ⟨rfl, rfl⟩ | ⟨g, off, cap, cur, e, fz, rfl, b, c, d, d'⟩⟩ := h
  · exact .inl ⟨rfl, rfl, List.eq_nil_of_length_eq_zero (by simpa using h1)⟩
  · exact .inr ⟨g, off, cap, rfl, d, d', lt_of_heap b⟩
theorem Rd.len (h : Rd s w v n xs) : xs.length = n * s := h.1

theorem addr_add (g off j : Nat) : (⟨g, off, none⟩ : Addr).add j = ⟨g, off + j, none⟩ := by unfold Addr.add; split <;> simp_all

/-- What is read may be appended. -/
theorem Rd.src {P : Program} {tx e' : TypeId} (hk : P.underlying tx = some (.slice e')) (h : Rd s w v n xs) : Src P s tx v n xs w := by
  have hc := fun {g off cap : Nat} (e : v = .slice (some ⟨g, off, none⟩) n cap) => Rd.cellAt (e ▸ h)
  rcases h.shape with ⟨rfl, rfl, rfl⟩ | ⟨g, off, cap, rfl, _⟩
  · exact Src.ofNil w hk 0
  · exact Src.ofSlice w hk ⟨g, off, none⟩ n cap xs h.1 (fun j u hu => by rw [addr_add]; exact hc rfl j u hu) h.2.1

/-- 'append': v' and w' are not known, but what they are good for. -/
theorem run_append_ow {P : Program} (t tx ty e : TypeId) (i : TypeInfo) (z : Value) (bytes : Nat) (ht : P.underlying t = some (.slice e)) (hi : P.info? e = some i) (hz : i.zero = some z)
    (hsize : i.size = s) (hby : i.bytes = bytes) (hzs : z.cells.size = s) (h : Ow base s w v n xs)
    (x : Value) (m : Nat) (news : List Value) (hs : Src P s tx x m news w)
    (h63 : n + m ≤ maxLen) (hbytes : (n + m) * bytes ≤ 140737488355328) (hbase : base ≤ w.heap.size) :
    ∃ v' w', (Builtin.append_ #[t, tx] ty #[v, x]).run P w = .ok v' w' ∧ Ow base s w' v' (n + m) (xs ++ news) ∧ w.grownBy w' v.ownBlock ∧
      (v'.ownBlock = v.ownBlock ∨ ∃ k, v'.ownBlock = some k ∧ w.heap.size ≤ k) ∧ (v' = .slice none 0 0 ↔ v = .slice none 0 0 ∧ m = 0) := by
  subst hsize hby
  have hm0 : m = 0 → news = [] := fun e => List.eq_nil_of_length_eq_zero (by rw [hs.newsLen, e]; simp)
  have hone : ∀ u ∈ xs ++ news, u.oneCell' = true := fun u hu => by
    rcases List.mem_append.1 hu with hu | hu
    · exact h.2.1 u hu
    · exact hs.one u hu
  have hlen : (xs ++ news).length = (n + m) * i.size := by rw [List.length_append, h.1, hs.newsLen, Nat.add_mul]
  have grow : ∀ (bs : Option Addr) (cap : Nat), cap < n + m → (Builtin.firstCells i.size n (.slice bs n cap)).run P w.drew = .ok xs.toArray w.drew →
      ∃ v' w', (Builtin.append_ #[t, tx] ty #[.slice bs n cap, x]).run P w = .ok v' w' ∧ Ow base i.size w' v' (n + m) (xs ++ news) ∧ w.grownBy w' (Value.ownBlock (.slice bs n cap)) ∧
      (v'.ownBlock = Value.ownBlock (.slice bs n cap) ∨ ∃ k, v'.ownBlock = some k ∧ w.heap.size ≤ k) ∧ (∃ a c, v' = .slice (some a) (n + m) c) := by
    intro bs cap hcap hold
    have hr := run_append_grow_src w t tx ty e i z ht hi hz bs n cap xs hold x m news hs hcap (by simp only [maxLen] at h63; omega) (growslice_fits hcap hbytes)
    have hge := grownCap_ge w (n + m) cap e
    have hcm := grownCap_le_maxLen w (n + m) cap e h63
    refine ⟨_, _, hr, ⟨hlen, hone, .inr ⟨w.heap.size, 0, _, _, _, _, rfl, heap_alloc_new w.drew _, ?_, hge, hcm, .inr ⟨hbase, rfl, ?_⟩⟩⟩, ⟨rfl, rfl, rfl, by simp, fun k hk _ => Below.heap_alloc w.drew _ k hk⟩, .inr ⟨_, rfl, Nat.le_refl _⟩, _, _, rfl⟩
    · simp only [Array.toList_append, List.drop_zero]
      rw [← hlen]
      exact List.take_left
    · simp only [Array.size_append, List.size_toArray, size_zeroCells, hzs, hlen, ← Nat.add_mul, Nat.zero_add]
      exact Nat.mul_le_mul_right _ (by omega)
  obtain ⟨h1, h2, ⟨rfl, rfl⟩ | ⟨g, off, cap, cur, e', fz, rfl, hg, hx, hnc, hcm, ho⟩⟩ := h
  · have hx : xs = [] := List.eq_nil_of_length_eq_zero (by simpa using h1)
    subst hx
    by_cases hm : m = 0
    · have hn := hm0 hm
      subst hm hn
      refine ⟨.slice none 0 0, w, ?_, ⟨by simp, by simp, .inl ⟨rfl, rfl⟩⟩, ⟨rfl, rfl, rfl, Nat.le_refl _, fun _ _ _ => rfl⟩, .inl rfl, by simp⟩
      have hst := hs.cells
      rcases hs.kind with ⟨e', hk⟩ | hk <;> simp [Builtin.append_, run_underlying ht, run_underlying hk, sizeOf, typeInfo, hi, hs.len, hst]
    · obtain ⟨v', w', a, b, c, d, _, _, rfl⟩ := grow none 0 (by omega) (run_firstCells_none w.drew _ _ _ _)
      exact ⟨_, _, a, b, c, d, by simp [hm]⟩
  · by_cases hroom : n + m ≤ cap
    · by_cases hm : m = 0
      · have hn := hm0 hm
        subst hm hn
        refine ⟨.slice (some ⟨g, off, none⟩) n cap, w, ?_, ?_, ⟨rfl, rfl, rfl, Nat.le_refl _, fun _ _ _ => rfl⟩, .inl rfl, by simp⟩
        · have hst := hs.cells
          rcases hs.kind with ⟨e', hk⟩ | hk <;> simp [Builtin.append_, run_underlying ht, run_underlying hk, sizeOf, typeInfo, hi, hs.len, hst, hnc, storeCells]
        · rw [List.append_nil]; exact ⟨h1, h2, .inr ⟨g, off, cap, cur, e', fz, rfl, hg, hx, hnc, hcm, ho⟩⟩
      · rcases ho with rfl | ⟨hbg, rfl, hfit⟩
        · omega
        · have hfit' : off + n * i.size + news.length ≤ cur.size := by
            have := Nat.mul_le_mul_right i.size hroom
            rw [hs.newsLen]; rw [Nat.add_mul] at this; omega
          have hst := run_storeCells_at P g (off + n * i.size) e' news 0 cur w hg (by simpa using hfit') hs.one
          simp only [Nat.add_zero] at hst
          refine ⟨.slice (some ⟨g, off, none⟩) (n + m) cap, w.setRow g (cur.toList.take (off + n * i.size) ++ news ++ cur.toList.drop (off + n * i.size + news.length)).toArray, ?_, ⟨hlen, hone, .inr ⟨g, off, cap, _, e', (0, 0), rfl, setRow_heap w g cur _ e' _ hg, ?_, hroom, hcm, .inr ⟨hbg, rfl, ?_⟩⟩⟩,
            ⟨rfl, rfl, rfl, by simp, fun k _ hk => setRow_other w g k _ (fun e => hk (by simp [Value.ownBlock, e]))⟩, .inl rfl, by simp⟩
          · rcases hs.kind with ⟨e', hk⟩ | hk <;> simp [Builtin.append_, run_underlying ht, run_underlying hk, sizeOf, typeInfo, hi, hs.len, hroom, hs.cells, Addr.add_lit, hst]
          · have hoff : off + n * i.size ≤ cur.toList.length := by simp; omega
            have e1 : ((cur.toList.take (off + n * i.size) ++ news ++ cur.toList.drop (off + n * i.size + news.length)).drop off) = (cur.toList.drop off).take (n * i.size) ++ news ++ cur.toList.drop (off + n * i.size + news.length) := by
              rw [List.append_assoc, List.drop_append_of_le_length (by rw [List.length_take]; omega), List.drop_take]
              simp [List.append_assoc]
            simp only [e1, hx]
            rw [← hlen]
            exact List.take_left
          · simp only [List.size_toArray, List.length_append, List.length_take, List.length_drop, Array.length_toList]
            omega
    · obtain ⟨v', w', a, b, c, d, _, _, rfl⟩ := grow (some ⟨g, off, none⟩) cap (by omega)
        (run_firstCells_some w.drew i.size n ⟨g, off, none⟩ n cap xs h1 (fun j u hu => by
          rw [addr_add]
          exact (Rd.cellAt (w := w.drew) (s := i.size) ⟨h1, h2, .inr ⟨g, off, cap, cur, e', fz, rfl, hg, hx, hnc, hcm⟩⟩ j u hu)))
      exact ⟨_, _, a, b, c, d, by simp⟩

/-- .. at the operation. -/
theorem wpList_append_ow {P : Program} {ops : Array Oper} {rest : List Oper} {o : Oper} {a : Act} {Q : Exit → Act → World → Prop} (hgd : o.guard = none) (sa x : Operand) (t tx : TypeId)
    (ho : o.op = .call { callee := .builtin .append, args := #[sa, x], argTypes := #[t, tx] })
    (e : TypeId) (i : TypeInfo) (z : Value) (bytes : Nat) (ht : P.underlying t = some (.slice e)) (hi : P.info? e = some i) (hz : i.zero = some z)
    (hsize : i.size = s) (hby : i.bytes = bytes) (hzs : z.cells.size = s) (h : Ow base s w v n xs) (hv : a.eval sa = v)
    (xv : Value) (hx : a.eval x = xv) (m : Nat) (news : List Value) (hs : Src P s tx xv m news w)
    (h63 : n + m ≤ maxLen) (hbytes : (n + m) * bytes ≤ 140737488355328) (hbase : base ≤ w.heap.size)
    (hk : ∀ v' w', Ow base s w' v' (n + m) (xs ++ news) → w.grownBy w' v.ownBlock → (v'.ownBlock = v.ownBlock ∨ ∃ k, v'.ownBlock = some k ∧ w.heap.size ≤ k) → (v' = .slice none 0 0 ↔ v = .slice none 0 0 ∧ m = 0) →
      wpList P ops Q rest (a.put o.dst v') w') : wpList P ops Q (o :: rest) a w := by
  refine wpList_plain hgd fun K hK => ?_
  obtain ⟨v', w', hr, h2, h3, h4, h5⟩ := run_append_ow (P := P) t tx o.type e i z bytes ht hi hz hsize hby hzs h xv m news hs h63 hbytes hbase
  unfold Oper.wp execOp
  simp only [ho, resolve, invoke, builtin, Sem.run_bind, Sem.run_pure, Result.andThen_ok, List.map_toArray, List.map_cons, List.map_nil, hv, hx, hr]
  exact hK _ _ (hk v' w' h2 h3 h4 h5)
end

/-- From v in w to v' in w': only v's own block may have been written; v' lies there, or in a new one. -/
structure Gw (w : World) (v : Value) (w' : World) (v' : Value) : Prop where
  fr : Fr (fun k => some k = v.ownBlock) w w'
  own : v'.ownBlock = v.ownBlock ∨ ∃ k, v'.ownBlock = some k ∧ w.heap.size ≤ k
theorem Gw.refl (w : World) (v : Value) : Gw w v w v := ⟨Fr.refl _ _, .inl rfl⟩
theorem Gw.trans {w w1 w2 : World} {v v1 v2 : Value} (h : Gw w v w1 v1) (k : Gw w1 v1 w2 v2) : Gw w v w2 v2 := by
  refine ⟨h.fr.trans k.fr fun i hi e => ?_, ?_⟩
  · rcases h.own with ho | ⟨j, ho, hj⟩
    · rw [← ho]; exact e
    · rw [ho] at e; simp at e; omega
  · rcases k.own with ko | ⟨j, ko, hj⟩
    · rw [ko]; exact h.own
    · exact .inr ⟨j, ko, Nat.le_trans h.fr.size hj⟩
theorem Gw.new {w w1 w2 : World} {v v2 : Value} (h : No w w1) (k : Gw w1 v w2 v2) : Gw w v w2 v2 :=
  ⟨(h.mono (T := fun k => some k = v.ownBlock) (fun _ _ a => a.elim)).trans k.fr fun _ _ e => e, by
    rcases k.own with ko | ⟨j, ko, hj⟩
    · exact .inl ko
    · exact .inr ⟨j, ko, Nat.le_trans h.size hj⟩⟩
theorem Gw.no {w w1 w2 : World} {v v1 : Value} (h : Gw w v w1 v1) (k : No w1 w2) : Gw w v w2 v1 := ⟨h.fr.trans k fun _ _ a => a.elim, h.own⟩
/-- What does not lie in v's block is as it was. -/
theorem Gw.heap {w w' : World} {v v' : Value} (h : Gw w v w' v') {g : Nat} {o : Obj} (hg : w.heap[g]? = some o) (hn : v.ownBlock ≠ some g) : w'.heap[g]? = some o :=
  h.fr.heap hg fun e => hn e.symm
theorem Gw.below {w w' : World} {v v' : Value} (h : Gw w v w' v') (B : Nat) (hB : B ≤ w.heap.size) (hv : ∀ k, v.ownBlock = some k → B ≤ k) : Below B w w' :=
  h.fr.below B hB fun k e => hv k e.symm
theorem No.of_gw_nil {w w' : World} {v' : Value} (h : Gw w (.slice none 0 0) w' v') : No w w' := h.fr.mono fun _ _ e => by simp [Value.ownBlock] at e

section
variable {base s : Nat} {w w' : World} {v : Value} {n : Nat} {xs : List Value}
/-- One element of one cell, which lies in a new block. -/
theorem Src.one {P : Program} {tx e' : TypeId} (hk : P.underlying tx = some (.slice e')) (w : World) (x : Value) (e : TypeId) (hx : x.oneCell' = true) :
    Src P 1 tx (.slice (some ⟨w.heap.size, 0, none⟩) 1 1) 1 [x] (w.alloc (.cells #[x] e)) :=
  Src.ofSlice _ hk _ 1 1 [x] rfl (fun j u hu => by
    match j, hu with
    | 0, hu => simp at hu; subst hu; rw [addr_add, cell_of_row _ _ _ _ _ _ (heap_alloc_new w _)]; rfl
    | j + 1, hu => simp at hu) (fun u hu => by simp at hu; subst hu; exact hx)

/-- 'append(v, x)', x of one cell. -/
theorem wpList_append_one {P : Program} {ops : Array Oper} {rest : List Oper} {o : Oper} {a : Act} {Q : Exit → Act → World → Prop} (hgd : o.guard = none) (sa x : Operand) (t : TypeId)
    (ho : o.op = .call { callee := .builtin .append, args := #[sa, x], argTypes := #[t, t] })
    (e : TypeId) (i : TypeInfo) (z : Value) (bytes : Nat) (ht : P.underlying t = some (.slice e)) (hi : P.info? e = some i) (hz : i.zero = some z)
    (hsize : i.size = 1) (hby : i.bytes = bytes) (hzs : z.cells.size = 1) (h : Ow base 1 w v n xs) (hv : a.eval sa = v)
    (xc : Value) (e2 : TypeId) (hx : a.eval x = .slice (some ⟨w.heap.size, 0, none⟩) 1 1) (h1 : xc.oneCell' = true)
    (h63 : n + 1 ≤ maxLen) (hbytes : (n + 1) * bytes ≤ 140737488355328) (hbase : base ≤ w.heap.size)
    (hk : ∀ v' w', Ow base 1 w' v' (n + 1) (xs ++ [xc]) → Gw w v w' v' → wpList P ops Q rest (a.put o.dst v') w') : wpList P ops Q (o :: rest) a (w.alloc (.cells #[xc] e2)) := by
  refine wpList_append_ow hgd sa x t t ho e i z bytes ht hi hz hsize hby hzs (h.alloc _) hv _ hx 1 [xc] (Src.one ht w xc e2 h1) h63 hbytes (by simp; omega) fun v' w' a b c _ => ?_
  exact hk v' w' a (Gw.new ((Fr.refl _ _).alloc _) ⟨Fr.of_grown b, c⟩)

/-- Bytes: a slice of bytes that is read; that may be appended to. -/
def RB (w : World) (v : Value) (l : List UInt8) : Prop := Rd 1 w v l.length (bs l)
def OB (base : Nat) (w : World) (v : Value) (l : List UInt8) : Prop := Ow base 1 w v l.length (bs l)
theorem OB.rb {l : List UInt8} (h : OB base w v l) : RB w v l := Ow.rd h
theorem OB.nil (base : Nat) (w : World) : OB base w (.slice none 0 0) [] := Ow.nil _ _ _
theorem RB.nil (w : World) : RB w (.slice none 0 0) [] := Rd.nil _ _
theorem OB.of {l : List UInt8} {n : Nat} {xs : List Value} (h : Ow base 1 w v n xs) (hn : n = l.length) (hx : xs = bs l) : OB base w v l := by subst hn hx; exact h
theorem OB.no {l : List UInt8} (h : OB base w v l) (hf : No w w') : OB base w' v l := Ow.no h hf
theorem RB.no {l : List UInt8} (h : RB w v l) (hf : No w w') : RB w' v l := Rd.no h hf
theorem OB.alloc {l : List UInt8} (h : OB base w v l) (o : Obj) : OB base (w.alloc o) v l := Ow.alloc h o
theorem RB.alloc {l : List UInt8} (h : RB w v l) (o : Obj) : RB (w.alloc o) v l := Rd.alloc h o

theorem wpList_append_byte {P : Program} {ops : Array Oper} {rest : List Oper} {o : Oper} {a : Act} {Q : Exit → Act → World → Prop} (hgd : o.guard = none) (sa x : Operand) (t : TypeId)
    (ho : o.op = .call { callee := .builtin .append, args := #[sa, x], argTypes := #[t, t] })
    (e : TypeId) (ht : P.underlying t = some (.slice e)) (hi : (P.info? e).map (fun i => (i.zero, i.size, i.bytes)) = some (some (.int .u8 0), 1, 1))
    {l : List UInt8} (h : OB base w v l) (hv : a.eval sa = v)
    (xc : Value) (e2 : TypeId) (hx : a.eval x = .slice (some ⟨w.heap.size, 0, none⟩) 1 1) (c : UInt8) (hc : xc = .int .u8 (by8 c))
    (hl : l.length ≤ 100000000000) (hbase : base ≤ w.heap.size)
    (hk : ∀ v' w', OB base w' v' (l ++ [c]) → Gw w v w' v' → wpList P ops Q rest (a.put o.dst v') w') : wpList P ops Q (o :: rest) a (w.alloc (.cells #[xc] e2)) := by
  obtain ⟨i, hi, hz, hs, hb⟩ := info_parts hi
  subst hc
  exact wpList_append_one hgd sa x t ho e i _ 1 ht hi hz hs hb rfl h hv _ e2 hx rfl (by unfold maxLen; omega) (by omega) hbase fun v' w' p q => hk v' w' (OB.of p (by simp) (by simp [bs])) q

theorem wpList_append_bytes {P : Program} {ops : Array Oper} {rest : List Oper} {o : Oper} {a : Act} {Q : Exit → Act → World → Prop} (hgd : o.guard = none) (sa x : Operand) (t tx : TypeId)
    (ho : o.op = .call { callee := .builtin .append, args := #[sa, x], argTypes := #[t, tx] })
    (e : TypeId) (ht : P.underlying t = some (.slice e)) (hi : (P.info? e).map (fun i => (i.zero, i.size, i.bytes)) = some (some (.int .u8 0), 1, 1))
    {l : List UInt8} (h : OB base w v l) (hv : a.eval sa = v)
    (xv : Value) (hx : a.eval x = xv) (m : List UInt8) (hs : Src P 1 tx xv m.length (bs m) w)
    (hl : l.length + m.length ≤ 100000000000) (hbase : base ≤ w.heap.size)
    (hk : ∀ v' w', OB base w' v' (l ++ m) → Gw w v w' v' → (v' = .slice none 0 0 ↔ v = .slice none 0 0 ∧ m.length = 0) → wpList P ops Q rest (a.put o.dst v') w') : wpList P ops Q (o :: rest) a w := by
  obtain ⟨i, hi, hz, hsz, hb⟩ := info_parts hi
  exact wpList_append_ow hgd sa x t tx ho e i _ 1 ht hi hz hsz hb rfl h hv xv hx m.length (bs m) hs (by unfold maxLen; omega) (by omega) hbase
    fun v' w' p q r r' => hk v' w' (OB.of p (by simp) (by simp [bs])) ⟨Fr.of_grown q, r⟩ r'
theorem RB.src {P : Program} {tx e' : TypeId} (hk : P.underlying tx = some (.slice e')) {l : List UInt8} (h : RB w v l) : Src P 1 tx v l.length (bs l) w := Rd.src hk h
theorem Src.text {P : Program} {tx : TypeId} (hk : P.underlying tx = some .string) (b : ByteArray) (w : World) : Src P 1 tx (.string b) b.data.toList.length (bs b.data.toList) w := by
  have := Src.ofString (P := P) w hk b
  rwa [show b.size = b.data.toList.length from by rw [Array.length_toList]; rfl, show byteCells b = bs b.data.toList from rfl] at this
end
end Go.Proofs.Ytbdkicmdidcdcaa
namespace Go.Proofs.Ytbdkicmdidcdcaa
open Go.RowKit

@[go_sem] theorem u32_add (a b : UInt32) : (wd a + wd b) % (4294967296 : Int) = wd (a + b) := by unfold wd; rw [UInt32.toNat_add]; omega
@[go_sem] theorem u32_xorw (a b : UInt32) : bits .xor .u32 (wd a) (wd b) = wd (a ^^^ b) := by
  unfold wd; rw [u32_xor_nat _ _ a.toNat_lt b.toNat_lt, UInt32.toNat_xor]
@[go_sem] theorem u32_andw (a b : UInt32) : bits .and .u32 (wd a) (wd b) = wd (a &&& b) := by
  unfold wd; rw [u32_and_nat _ _ a.toNat_lt b.toNat_lt, UInt32.toNat_and]
@[go_sem] theorem u32_orw (a b : UInt32) : bits .or .u32 (wd a) (wd b) = wd (a ||| b) := by
  unfold wd; rw [u32_or_nat _ _ a.toNat_lt b.toNat_lt, UInt32.toNat_or]
theorem u32_not_nat (u : Nat) (h : u < 4294967296) : 4294967295 ^^^ u = 4294967295 - u := by
  have h1 := BitVec.not_def (x := BitVec.ofNat 32 u)
  have h2 : (~~~ (BitVec.ofNat 32 u)).toNat = 2 ^ 32 - 1 - u := by rw [BitVec.toNat_not, BitVec.toNat_ofNat, Nat.mod_eq_of_lt (by simpa using h)]
  rw [h1, BitVec.toNat_xor, BitVec.toNat_allOnes, BitVec.toNat_ofNat, Nat.mod_eq_of_lt (by simpa using h)] at h2
  exact h2
@[go_sem] theorem u32_notw (a : UInt32) : bits .xor .u32 IntKind.u32.max (wd a) = wd (~~~ a) := by
  unfold wd
  rw [show IntKind.u32.max = ((4294967295 : Nat) : Int) from rfl, u32_xor_nat _ _ (by omega) a.toNat_lt, u32_not_nat _ a.toNat_lt, UInt32.toNat_not]
  simp [UInt32.size]
@[go_sem] theorem u32_notw2 (a : UInt32) : bits .xor .u32 (if IntKind.u32.signed = true then -1 else IntKind.u32.max) (wd a) = wd (~~~ a) := u32_notw a
theorem u32_shl (a : UInt32) (k : Nat) (hk : k < 32) : ((a.toNat * 2 ^ k % 4294967296 : Nat) : Int) = wd (a <<< UInt32.ofNat k) := by
  unfold wd; rw [UInt32.toNat_shiftLeft, UInt32.toNat_ofNat', Nat.mod_eq_of_lt (a := k) (by omega), Nat.mod_eq_of_lt hk, Nat.shiftLeft_eq]
theorem u32_shr (a : UInt32) (k : Nat) (hk : k < 32) : ((a.toNat / 2 ^ k : Nat) : Int) = wd (a >>> UInt32.ofNat k) := by
  unfold wd; rw [UInt32.toNat_shiftRight, UInt32.toNat_ofNat', Nat.mod_eq_of_lt (a := k) (by omega), Nat.mod_eq_of_lt hk, Nat.shiftRight_eq_div_pow]
@[go_sem] theorem u32_shl24 (a : UInt32) : wd a * (16777216 : Int) % (4294967296 : Int) = wd (a <<< 24) := by rw [show (a <<< 24) = a <<< UInt32.ofNat 24 from rfl, ← u32_shl _ _ (by omega)]; unfold wd; omega
@[go_sem] theorem u32_shl16 (a : UInt32) : wd a * (65536 : Int) % (4294967296 : Int) = wd (a <<< 16) := by rw [show (a <<< 16) = a <<< UInt32.ofNat 16 from rfl, ← u32_shl _ _ (by omega)]; unfold wd; omega
@[go_sem] theorem u32_shl8 (a : UInt32) : wd a * (256 : Int) % (4294967296 : Int) = wd (a <<< 8) := by rw [show (a <<< 8) = a <<< UInt32.ofNat 8 from rfl, ← u32_shl _ _ (by omega)]; unfold wd; omega
@[go_sem] theorem u32_shr24 (a : UInt32) : wd a / (16777216 : Int) = wd (a >>> 24) := by rw [show (a >>> 24) = a >>> UInt32.ofNat 24 from rfl, ← u32_shr _ _ (by omega)]; unfold wd; omega
@[go_sem] theorem u32_shr16 (a : UInt32) : wd a / (65536 : Int) = wd (a >>> 16) := by rw [show (a >>> 16) = a >>> UInt32.ofNat 16 from rfl, ← u32_shr _ _ (by omega)]; unfold wd; omega
@[go_sem] theorem u32_shr8 (a : UInt32) : wd a / (256 : Int) = wd (a >>> 8) := by rw [show (a >>> 8) = a >>> UInt32.ofNat 8 from rfl, ← u32_shr _ _ (by omega)]; unfold wd; omega
@[go_sem] theorem u32_shr3 (a : UInt32) : wd a / (8 : Int) = wd (a >>> 3) := by rw [show (a >>> 3) = a >>> UInt32.ofNat 3 from rfl, ← u32_shr _ _ (by omega)]; unfold wd; omega
@[go_sem] theorem u32_shr10 (a : UInt32) : wd a / (1024 : Int) = wd (a >>> 10) := by rw [show (a >>> 10) = a >>> UInt32.ofNat 10 from rfl, ← u32_shr _ _ (by omega)]; unfold wd; omega
@[go_sem] theorem u8_u32 (a : UInt8) : by8 a % (4294967296 : Int) = wd a.toUInt32 := by unfold wd by8; rw [UInt8.toNat_toUInt32]; have := a.toNat_lt; omega
@[go_sem] theorem u32_u8 (a : UInt32) : wd a % (256 : Int) = by8 a.toUInt8 := by unfold wd by8; rw [UInt32.toNat_toUInt8]; omega
@[go_sem] theorem u8_xorw (a b : UInt8) : bits .xor .u8 (by8 a) (by8 b) = by8 (a ^^^ b) := by
  unfold by8; rw [u8_xor_nat _ _ a.toNat_lt b.toNat_lt, UInt8.toNat_xor]
@[go_sem] theorem u8_orw (a b : UInt8) : bits .or .u8 (by8 a) (by8 b) = by8 (a ||| b) := by
  unfold by8; rw [u8_or_nat _ _ a.toNat_lt b.toNat_lt, UInt8.toNat_or]
@[go_sem] theorem u8_i64 (a : UInt8) : IntKind.i64.wrap (by8 a) = by8 a := by have := by8_lt a; rw [IntWalk.i64_in]; omega
@[go_sem] theorem u8_u64 (a : UInt8) : IntKind.u64.wrap (by8 a) = by8 a := by have := by8_lt a; rw [IntWalk.u64_in]; omega

/-- Four bytes as a word, the highest first. -/
def be32 (a b c d : UInt8) : UInt32 := a.toUInt32 <<< 24 ||| b.toUInt32 <<< 16 ||| c.toUInt32 <<< 8 ||| d.toUInt32
def le32 (a b c d : UInt8) : UInt32 := a.toUInt32 ||| b.toUInt32 <<< 8 ||| c.toUInt32 <<< 16 ||| d.toUInt32 <<< 24
theorem u8_wd (a : UInt8) : by8 a = wd a.toUInt32 := by unfold by8 wd; rw [UInt8.toNat_toUInt32]
theorem be32_walk (a b c d : UInt8) : bits .or .u32 (bits .or .u32 (bits .or .u32 (by8 a * 16777216 % 4294967296) (by8 b * 65536 % 4294967296)) (by8 c * 256 % 4294967296)) (by8 d) = wd (be32 a b c d) := by
  rw [u8_wd a, u8_wd b, u8_wd c, u8_wd d, u32_shl24, u32_shl16, u32_shl8, u32_orw, u32_orw, u32_orw]; rfl
theorem le32_walk (a b c d : UInt8) : bits .or .u32 (bits .or .u32 (bits .or .u32 (by8 a) (by8 b * 256 % 4294967296)) (by8 c * 65536 % 4294967296)) (by8 d * 16777216 % 4294967296) = wd (le32 a b c d) := by
  rw [u8_wd a, u8_wd b, u8_wd c, u8_wd d, u32_shl24, u32_shl16, u32_shl8, u32_orw, u32_orw, u32_orw]; rfl
/-- A word turned to the right. -/
def ror (x : UInt32) (n : Nat) : UInt32 := (x >>> UInt32.ofNat n) ||| (x <<< UInt32.ofNat (32 - n))
def rolI (x : UInt32) (k : Int) : UInt32 := let s := (k % 32).toNat; UInt32.ofNat (x.toNat * 2 ^ s % 4294967296 ||| x.toNat / 2 ^ (32 - s))
theorem rolI_ror (x : UInt32) (k : Int) (n : Nat) (hn : 1 ≤ n) (hn2 : n ≤ 31) (h : (k % 32).toNat = 32 - n) : rolI x k = ror x n := by
  apply UInt32.toNat_inj.1
  unfold rolI ror
  simp only [h]
  have h1 := u32_shl x (32 - n) (by omega)
  have h2 := u32_shr x n (by omega)
  unfold wd at h1 h2
  rw [UInt32.toNat_or, UInt32.toNat_ofNat', Nat.or_comm]
  rw [show 32 - (32 - n) = n from by omega]
  have e1 : (x <<< UInt32.ofNat (32 - n)).toNat = x.toNat * 2 ^ (32 - n) % 4294967296 := by omega
  have e2 : (x >>> UInt32.ofNat n).toNat = x.toNat / 2 ^ n := by omega
  rw [← e1, ← e2]
  have := (x >>> UInt32.ofNat n ||| x <<< UInt32.ofNat (32 - n)).toNat_lt
  rw [UInt32.toNat_or] at this
  exact Nat.mod_eq_of_lt this
theorem rolI_or (x : UInt32) (s : Nat) (hs : s < 32) :
    bits .or .u32 (wd x * 2 ^ s % 4294967296) (wd x / 2 ^ (32 - s)) = wd (rolI x s) := by
  unfold wd
  have e1 : ((x.toNat : Int) * 2 ^ s % 4294967296) = ((x.toNat * 2 ^ s % 4294967296 : Nat) : Int) := by simp
  have e2 : ((x.toNat : Int) / 2 ^ (32 - s)) = ((x.toNat / 2 ^ (32 - s) : Nat) : Int) := by simp
  have hlt : x.toNat / 2 ^ (32 - s) < 4294967296 := Nat.lt_of_le_of_lt (Nat.div_le_self _ _) x.toNat_lt
  rw [e1, e2, u32_or_nat _ _ (by omega) hlt]
  unfold rolI
  have e3 : ((s : Int) % 32).toNat = s := by omega
  simp only [e3]
  rw [UInt32.toNat_ofNat']
  have : x.toNat * 2 ^ s % 4294967296 ||| x.toNat / 2 ^ (32 - s) < 2 ^ 32 := Nat.or_lt_two_pow (by omega) (by omega)
  rw [Nat.mod_eq_of_lt this]
theorem and31 (k : Int) : bits BinOp.and IntKind.u64 (IntKind.u64.wrap k) 31 = (((k % 32).toNat : Nat) : Int) := by
  have e : IntKind.u64.wrap k = (((k % 18446744073709551616).toNat : Nat) : Int) := by
    rw [show IntKind.u64.wrap k = k % 18446744073709551616 from by simp [IntKind.wrap, IntKind.bits, IntKind.signed]]; omega
  rw [e, show (31 : Int) = ((31 : Nat) : Int) from rfl, u64_and_nat _ _ (by omega) (by omega), nat_mask5]
  omega
theorem rolI_mod (x : UInt32) (k : Int) : rolI x ((k % 32).toNat : Nat) = rolI x k := by
  unfold rolI
  have : (((k % 32).toNat : Int) % 32).toNat = (k % 32).toNat := by omega
  simp only [this]

@[go_sem] theorem rol_m7 (x : UInt32) : rolI x (-7) = ror x 7 := rolI_ror x _ _ (by decide) (by decide) (by decide)
@[go_sem] theorem rol_m18 (x : UInt32) : rolI x (-18) = ror x 18 := rolI_ror x _ _ (by decide) (by decide) (by decide)
@[go_sem] theorem rol_m17 (x : UInt32) : rolI x (-17) = ror x 17 := rolI_ror x _ _ (by decide) (by decide) (by decide)
@[go_sem] theorem rol_m19 (x : UInt32) : rolI x (-19) = ror x 19 := rolI_ror x _ _ (by decide) (by decide) (by decide)
@[go_sem] theorem rol_m6 (x : UInt32) : rolI x (-6) = ror x 6 := rolI_ror x _ _ (by decide) (by decide) (by decide)
@[go_sem] theorem rol_m11 (x : UInt32) : rolI x (-11) = ror x 11 := rolI_ror x _ _ (by decide) (by decide) (by decide)
@[go_sem] theorem rol_m25 (x : UInt32) : rolI x (-25) = ror x 25 := rolI_ror x _ _ (by decide) (by decide) (by decide)
@[go_sem] theorem rol_m2 (x : UInt32) : rolI x (-2) = ror x 2 := rolI_ror x _ _ (by decide) (by decide) (by decide)
@[go_sem] theorem rol_m13 (x : UInt32) : rolI x (-13) = ror x 13 := rolI_ror x _ _ (by decide) (by decide) (by decide)
@[go_sem] theorem rol_m22 (x : UInt32) : rolI x (-22) = ror x 22 := rolI_ror x _ _ (by decide) (by decide) (by decide)
@[go_sem] theorem rol_16 (x : UInt32) : rolI x 16 = ror x 16 := rolI_ror x _ _ (by decide) (by decide) (by decide)
@[go_sem] theorem rol_12 (x : UInt32) : rolI x 12 = ror x 20 := rolI_ror x _ _ (by decide) (by decide) (by decide)
@[go_sem] theorem rol_8 (x : UInt32) : rolI x 8 = ror x 24 := rolI_ror x _ _ (by decide) (by decide) (by decide)
@[go_sem] theorem rol_7 (x : UInt32) : rolI x 7 = ror x 25 := rolI_ror x _ _ (by decide) (by decide) (by decide)
theorem ror_ref (x : UInt32) (n : Nat) (hn : 1 ≤ n) (hn2 : n ≤ 31) : bits .or .u32 (wd x / 2 ^ n) (wd x * 2 ^ (32 - n) % 4294967296) = wd (ror x n) := by
  have h1 := u32_shl x (32 - n) (by omega)
  have h2 := u32_shr x n (by omega)
  have e1 : (wd x * 2 ^ (32 - n) % 4294967296) = ((x.toNat * 2 ^ (32 - n) % 4294967296 : Nat) : Int) := by simp [wd]
  have e2 : (wd x / 2 ^ n) = ((x.toNat / 2 ^ n : Nat) : Int) := by simp [wd]
  rw [e1, e2, h1, h2, u32_orw]; rfl

/-- A region that draws its order: reads, and one operation at its end. -/
theorem wp_region_tail {P : Program} {id : Nat} {Q : Exit → Act → World → Prop} {a : Act} {w : World} {l : List Oper} (n : Nat) (hm : P.follows .mixedOrders = true) (hB : Region.lexTailB .any l.toArray n = true)
    (h : wpStill P l.toArray w.drew (fun a' => wpList P l.toArray Q (l.drop n) a' w.drew) (l.take n) a) : (Code.region id l.toArray true).wp P Q a w := wp_region_still_tail n hm hB h

/-- The cells of words. -/
def ws (l : List UInt32) : List Value := l.map fun x => .int .u32 (wd x)
theorem ws_length (l : List UInt32) : (ws l).length = l.length := by simp [ws]
theorem ws_one {l : List UInt32} : ∀ u ∈ ws l, u.oneCell' = true := by
  intro u hu
  obtain ⟨_, _, rfl⟩ := List.mem_map.1 hu
  rfl
theorem ws_get {l : List UInt32} {j : Nat} (h : j < l.length) : (ws l)[j]? = some (.int .u32 (wd l[j])) := by simp [ws, h]
theorem ws_getD {l : List UInt32} {j : Nat} (h : j < l.length) : (ws l)[j]? = some (.int .u32 (wd (l.getD j 0))) := by simp [ws, h]
theorem bs_getD {l : List UInt8} {j : Nat} (h : j < l.length) : (bs l)[j]? = some (.int .u8 (by8 (l.getD j 0))) := by simp [bs, h]
end Go.Proofs.Ytbdkicmdidcdcaa
namespace Go.Proofs.Ytbdkicmdidcdcaa
open Go.RowKit

section
variable {P : Program}
theorem run_loadVar_sub (w : World) (g o : Nat) (t ty : TypeId) (cs : Array Value) (fr : Nat × Nat) (d : TypeDesc) (hg : w.heap[g]? = some (.cells cs t fr))
    (hu : P.underlying ty = some d) (hd : (match d with | .struct _ | .array _ _ => true | _ => false) = true) (n : Nat) (hi : (P.info? ty).map (·.size) = some n)
    (vs : List Value) (hvs : (cs.toList.drop o).take n = vs) (hl : vs.length = n) :
    (loadVar ty ⟨g, o, none⟩).run P w = .ok (.agg vs.toArray) w := by
  have hl' : (loadCells ⟨g, o, none⟩ vs.length).run P w = .ok vs.toArray w :=
    run_loadCells_list (P := P) w ⟨g, o, none⟩ vs (fun j v hv => by
      rw [addr_add, cell_of_row w g (o + j) cs t fr hg]
      rw [← hvs, List.getElem?_take] at hv
      split at hv
      · rw [List.getElem?_drop] at hv; simpa using hv
      · cases hv)
  cases hq : P.info? ty with
  | none => simp [hq] at hi
  | some i =>
    have hs : i.size = n := by simpa [hq] using hi
    have hagg : (isAgg ty).run P w = .ok true w := by
      unfold isAgg
      rw [Sem.run_bind, run_underlying hu w]
      cases d <;> simp_all
    rw [hl] at hl'
    simp [loadVar, Sem.run_bind, hagg, sizeOf, typeInfo, hq, hs, hl']

theorem run_storeVar_sub (w : World) (g o : Nat) (t ty : TypeId) (old cells : Array Value) (hg : w.heap[g]? = some (.cells old t (0, 0))) (hi : (P.info? ty).map (·.size) = some cells.size)
    (ho : o + cells.size ≤ old.size) (h1 : ∀ u ∈ cells.toList, u.oneCell' = true) :
    (storeVar ty ⟨g, o, none⟩ (.agg cells)).run P w = .ok () (w.setRow g (old.toList.take o ++ cells.toList ++ old.toList.drop (o + cells.size)).toArray) := by
  have := run_storeCells_at P g o t cells.toList 0 old w hg (by simpa using ho) h1
  simp only [Nat.add_zero, Array.length_toList] at this
  cases hq : P.info? ty with
  | none => simp [hq] at hi
  | some i =>
    have hs : cells.size = i.size := by simp [hq] at hi; omega
    simp [storeVar, sizeOf, typeInfo, hq, Value.cells, hs, this]

variable {ops : Array Oper} {rest : List Oper} {o : Oper} {a : Act} {w : World} {Q : Exit → Act → World → Prop}
theorem wpList_load_sub (hgd : o.guard = none) (ty : TypeId) (x : Operand) (ho : o.op = .load ty x)
    (g off : Nat) (hx : a.eval x = .pointer (some ⟨g, off, none⟩)) (t : TypeId) (cs : Array Value) (fr : Nat × Nat) (d : TypeDesc) (hg : w.heap[g]? = some (.cells cs t fr))
    (hu : P.underlying ty = some d) (hd : (match d with | .struct _ | .array _ _ => true | _ => false) = true) (n : Nat) (hi : (P.info? ty).map (·.size) = some n)
    (vs : List Value) (hvs : (cs.toList.drop off).take n = vs) (hl : vs.length = n)
    (h : wpList P ops Q rest (a.put o.dst (.agg vs.toArray)) w) : wpList P ops Q (o :: rest) a w := by
  refine wpList_plain hgd fun K hK => ?_
  unfold Oper.wp execOp
  simp only [ho, hx, Instr.loadAt, Instr.sureAddr, Sem.run_bind, Sem.run_pure, Result.andThen_ok, run_loadVar_sub w g off t ty cs fr d hg hu hd n hi vs hvs hl]
  exact hK _ _ h
theorem wpList_store_sub (hgd : o.guard = none) (ty : TypeId) (x y : Operand) (ho : o.op = .store ty x y)
    (g off : Nat) (cells : Array Value) (hx : a.eval x = .pointer (some ⟨g, off, none⟩)) (hy : a.eval y = .agg cells)
    (t : TypeId) (old : Array Value) (hg : w.heap[g]? = some (.cells old t (0, 0))) (hi : (P.info? ty).map (·.size) = some cells.size)
    (hfit : off + cells.size ≤ old.size) (h1 : ∀ u ∈ cells.toList, u.oneCell' = true)
    (h : wpList P ops Q rest (a.put o.dst undef) (w.setRow g (old.toList.take off ++ cells.toList ++ old.toList.drop (off + cells.size)).toArray)) : wpList P ops Q (o :: rest) a w := by
  refine wpList_plain hgd fun K hK => ?_
  unfold Oper.wp execOp
  simp only [ho, hx, hy, Instr.storeAt, Instr.sureAddr, Sem.run_bind, Sem.run_pure, Result.andThen_ok, run_storeVar_sub w g off t ty old cells hg hi hfit h1]
  exact hK _ _ h
/-- A value of one cell, whatever it is, into one cell. -/
theorem wpList_store_val (hgd : o.guard = none) (ty : TypeId) (x y : Operand) (ho : o.op = .store ty x y)
    (g off : Nat) (v u : Value) (hx : a.eval x = .pointer (some ⟨g, off, none⟩)) (hy : a.eval y = v) (h1 : v.oneCell' = true) (hc : v.cells = #[v])
    (hcell : w.cell? ⟨g, off, none⟩ = some u) (hfz : w.frozen? ⟨g, off, none⟩ = false) (hi : (P.info? ty).map (·.size) = some 1)
    (h : wpList P ops Q rest (a.put o.dst undef) (w.setCell ⟨g, off, none⟩ v)) : wpList P ops Q (o :: rest) a w := by
  refine wpList_plain hgd fun K hK => ?_
  unfold Oper.wp execOp
  have hr : (storeVar ty ⟨g, off, none⟩ v).run P w = .ok () (w.setCell ⟨g, off, none⟩ v) := by
    cases hq : P.info? ty with
    | none => simp [hq] at hi
    | some i =>
      have hs : i.size = 1 := by simpa [hq] using hi
      simp [storeVar, sizeOf, typeInfo, hq, hs, hc, storeCells, addr_add, run_store P w _ v _ h1, hcell, hfz]
  simp only [ho, hx, hy, Instr.storeAt, Instr.sureAddr, Sem.run_bind, Sem.run_pure, Result.andThen_ok, hr]
  exact hK _ _ h
theorem slice_cells {s : Nat} {w : World} {v : Value} {n : Nat} {xs : List Value} (h : Rd s w v n xs) : v.oneCell' = true ∧ v.cells = #[v] := by
  rcases h.shape with ⟨rfl, _⟩ | ⟨g, off, cap, rfl, _⟩ <;> exact ⟨rfl, rfl⟩
/-- .. the world behind it under a name. -/
theorem wpList_store_row' (hgd : o.guard = none) (ty : TypeId) (x y : Operand) (ho : o.op = .store ty x y)
    (g : Nat) (cells : Array Value) (hx : a.eval x = .pointer (some ⟨g, 0, none⟩)) (hy : a.eval y = .agg cells)
    (t : TypeId) (old : Array Value) (hg : w.heap[g]? = some (.cells old t (0, 0))) (hi : (P.info? ty).map (·.size) = some cells.size)
    (hold : old.size = cells.size) (h1 : ∀ u ∈ cells.toList, u.oneCell' = true)
    (h : ∀ w', w'.heap[g]? = some (.cells cells t (0, 0)) → (∀ k, k ≠ g → w'.heap[k]? = w.heap[k]?) → w'.heap.size = w.heap.size → Fr (fun k => k = g) w w' → wpList P ops Q rest (a.put o.dst undef) w') : wpList P ops Q (o :: rest) a w :=
  wpList_store_row hgd ty x y ho g cells hx hy t old hg hi hold (by rw [Array.all_eq_true_iff_forall_mem]; intro u hu; exact h1 u (by simpa using hu))
    (h _ (setRow_heap w g old _ t _ hg) (fun k hk => setRow_other w g k _ hk) (by simp) ((Fr.refl _ _).setRow g _ (fun _ => rfl)))
theorem heap_prev (w : World) (o o' : Obj) : ((w.alloc o).alloc o').heap[w.heap.size]? = some o := by
  rw [Below.heap_alloc _ _ _ (by simp)]; exact heap_alloc_new w o
theorem heap_last2 (w : World) (o o' : Obj) : ((w.alloc o).alloc o').heap[w.heap.size + 1]? = some o' := by
  have := heap_alloc_new (w.alloc o) o'
  simpa using this
/-- A result that lies in a block, handed back whole. -/
theorem bodyPost_cell {fn : Func} {R : Ending → World → Prop} {p : Tmp} {ty : TypeId} (h : fn.results = #[.cell p ty]) (g : Nat) (t : TypeId) (cs : Array Value) (fr : Nat × Nat) (d : TypeDesc)
    (hp : a.tmps.getD p undef = .pointer (some ⟨g, 0, none⟩)) (hg : w.heap[g]? = some (.cells cs t fr))
    (hu : P.underlying ty = some d) (hd : (match d with | .struct _ | .array _ _ => true | _ => false) = true) (hi : (P.info? ty).map (·.size) = some cs.size)
    (hdf : a.defers = []) (hR : R (.returned (.agg cs)) w) : bodyPost P fn R .ret a w :=
  bodyPost_ret (results_cell_row h _ w g t cs fr d hp hg hu hd hi) hdf hR
end
/-- A store into one cell of a block. -/
theorem setCell_row (w : World) (g j : Nat) (cur : Array Value) (e : TypeId) (fz : Nat × Nat) (u : Value) (h : w.heap[g]? = some (.cells cur e fz)) : w.setCell ⟨g, j, none⟩ u = w.setRow g (cur.setIfInBounds j u) :=
  setCell_eq_setRow w g j cur e fz u h
theorem setRow_heap_ne {w : World} {g k : Nat} {o : Obj} (h : w.heap[k]? = some o) (cs : Array Value) (hn : k ≠ g) : (w.setRow g cs).heap[k]? = some o := by rw [setRow_other _ _ _ _ hn]; exact h
end Go.Proofs.Ytbdkicmdidcdcaa
namespace Go.Proofs.Ytbdkicmdidcdcaa
open Go.RowKit

section
variable {P : Program} {ops : Array Oper} {rest : List Oper} {o : Oper} {a : Act} {w : World} {Q : Exit → Act → World → Prop}
/-- How long a slice is. -/
theorem wpList_len (hgd : o.guard = none) (x : Operand) (ty te : TypeId) (ho : o.op = .call { callee := .builtin .len, args := #[x], argTypes := #[ty] })
    (hu : P.underlying ty = some (.slice te)) (v : Value) (s n : Nat) (xs : List Value) (hr : Rd s w v n xs) (hx : a.eval x = v)
    (h : wpList P ops Q rest (a.put o.dst (.int .i64 n)) w) : wpList P ops Q (o :: rest) a w := by
  refine wpList_plain hgd fun K hK => ?_
  unfold Oper.wp execOp
  rcases hr.shape with ⟨rfl, rfl, _⟩ | ⟨g, off, cap, rfl, _⟩
  all_goals
    simp only [ho, resolve, invoke, builtin, Sem.run_bind, Sem.run_pure, Result.andThen_ok, List.map_toArray, List.map_cons, List.map_nil, hx]
    simp [Builtin.len_, run_underlying hu, goInt]
    exact hK _ _ h
end
theorem Gw.fresh {w w0 w' : World} {v0 v' : Value} (h0 : No w w0) (hv : ∀ k, v0.ownBlock = some k → w.heap.size ≤ k) (h : Gw w0 v0 w' v') : No w w' ∧ ∀ k, v'.ownBlock = some k → w.heap.size ≤ k := by
  refine ⟨h0.trans h.fr fun i hi e => ?_, fun k hk => ?_⟩
  · have := hv i e.symm; omega
  · rcases h.own with e | ⟨j, e, hj⟩
    · exact hv k (by rw [← e]; exact hk)
    · have := h0.size
      rw [e] at hk
      injection hk with hk
      omega
theorem OB.one (base : Nat) (w : World) (e : TypeId) (x : Value) (c : UInt8) (hx : x = .int .u8 (by8 c)) : OB base (w.alloc (.cells #[x] e)) (.slice (some ⟨w.heap.size, 0, none⟩) 1 1) [c] := by
  subst hx
  exact ⟨rfl, bs_one, .inr ⟨w.heap.size, 0, 1, _, e, (0, 0), rfl, heap_alloc_new w _, rfl, Nat.le_refl _, by unfold maxLen; omega, .inl rfl⟩⟩
end Go.Proofs.Ytbdkicmdidcdcaa
namespace Go.Proofs.Ytbdkicmdidcdcaa
open Go.RowKit

@[go_sem] theorem u32_u8w (a : UInt32) : IntKind.u8.wrap (wd a) = by8 a.toUInt8 := by rw [IntKind.wrap_u8', u32_u8]
theorem step_append_bytes {P : Program} {ops : Array Oper} {o : Oper} {a : Act} {w : World} {K : Act → World → Prop} {Q : Exit → Act → World → Prop} {E : Prop} {base : Nat} {v : Value} (hgd : o.guard = none) (sa x : Operand) (t tx : TypeId)
    (ho : o.op = .call { callee := .builtin .append, args := #[sa, x], argTypes := #[t, tx] })
    (e : TypeId) (ht : P.underlying t = some (.slice e)) (hi : (P.info? e).map (fun i => (i.zero, i.size, i.bytes)) = some (some (.int .u8 0), 1, 1))
    {l : List UInt8} (h : OB base w v l) (hv : a.eval sa = v)
    (xv : Value) (hx : a.eval x = xv) (m : List UInt8) (hs : Src P 1 tx xv m.length (bs m) w)
    (hl : l.length + m.length ≤ 100000000000) (hbase : base ≤ w.heap.size)
    (hk : ∀ v' w', OB base w' v' (l ++ m) → Gw w v w' v' → K (a.put o.dst v') w') :
    if Region.wanted o (yielded ops a.tmps) = true then Oper.wp P o a w K Q else E := by
  have hw : Region.wanted o (yielded ops a.tmps) = true := by simp [Region.wanted, hgd]
  rw [if_pos hw]
  obtain ⟨i, hi, hz, hsz, hb⟩ := info_parts hi
  obtain ⟨v', w', hr, h2, h3, h4, h5⟩ := run_append_ow (P := P) t tx o.type e i _ 1 ht hi hz hsz hb rfl h xv m.length (bs m) hs (by unfold maxLen; omega) (by omega) hbase
  unfold Oper.wp execOp
  simp only [ho, resolve, invoke, builtin, Sem.run_bind, Sem.run_pure, Result.andThen_ok, List.map_toArray, List.map_cons, List.map_nil, hv, hx, hr]
  exact hk v' w' (OB.of h2 (by simp) (by simp [bs])) ⟨Fr.of_grown h3, h4⟩
end Go.Proofs.Ytbdkicmdidcdcaa
namespace Go.Proofs.Ytbdkicmdidcdcaa
open Go.ChangeShapes Go.WideShapes Go.ChangeAt Go.RowKit

theorem wf64 {a : Int} (h : (Lit.int .i64 a).wf = true) : -9223372036854775808 ≤ a ∧ a ≤ 9223372036854775807 := by
  simp only [Lit.wf, Bool.and_eq_true, decide_eq_true_eq] at h
  have e1 : IntKind.i64.min = -9223372036854775808 := rfl
  have e2 : IntKind.i64.max = 9223372036854775807 := rfl
  omega
theorem wf8 {a : Int} (h : (Lit.int .u8 a).wf = true) : ∃ b : UInt8, a = by8 b := by
  simp only [Lit.wf, Bool.and_eq_true, decide_eq_true_eq] at h
  have e1 : IntKind.u8.min = 0 := rfl
  have e2 : IntKind.u8.max = 255 := rfl
  refine ⟨UInt8.ofNat a.toNat, ?_⟩
  unfold by8
  rw [UInt8.toNat_ofNat']
  omega
/-- Where a slice that came in lies. -/
theorem okWide_block {P : Program} {W : World} {base : Nat} {t e : TypeId} {x : Addr} {len cap : Nat} (ht : P.underlying t = some (.slice e)) (h : Value.okWide P W .any base t (.slice (some x) len cap)) :
    ∃ g off cur el fz, x = ⟨g, off, none⟩ ∧ W.heap[g]? = some (.cells cur el fz) := by
  simp only [Value.okWide, ht, Cell.okWide, Cell.ok] at h
  obtain ⟨_, _, _, hsp, row, n, hs, _⟩ := h
  obtain ⟨g, off, sp⟩ := x
  simp only at hsp hs
  subst hsp
  unfold World.shape? at hs
  split at hs
  · exact ⟨g, off, _, _, _, rfl, by assumption⟩
  · cases hs
theorem cells_take {w : World} {g off len : Nat} {cur : Array Value} {el : TypeId} {fz : Nat × Nat} {xs : List Value} (hg : w.heap[g]? = some (.cells cur el fz)) (hl : xs.length = len) (hc : ∀ j u, xs[j]? = some u → w.cell? ⟨g, off + j, none⟩ = some u) : (cur.toList.drop off).take len = xs := by
  apply List.ext_getElem?
  intro j
  rw [List.getElem?_take]
  by_cases hj : j < len
  · rw [if_pos hj, List.getElem?_drop]
    have h1 : xs[j]? = some xs[j] := List.getElem?_eq_getElem (by omega)
    have h2 := hc j _ h1
    rw [cell_of_row _ _ _ _ _ _ hg] at h2
    rw [h1, Array.getElem?_toList]
    exact h2
  · rw [if_neg hj, List.getElem?_eq_none (by omega)]
/-- Bytes that came in. -/
theorem RB.of_arg {H : Type} {enc : TypeId × Value → H} {P : Program} {W : World} {base b0 : Nat} {sp : Nat → Bool} {hd : Bool} {t e : TypeId} {v : Value} {d : DataW H} {ps : List MemPlace} (ht : P.underlying t = some (.slice e)) (he : P.underlying e = some (.int .u8)) (hc : P.cellsOf e = 1)
    (ok : Value.okWide P W .any base t v) (h : DataW.Trod enc P W b0 sp hd t v d ps) : ∃ l : List UInt8, RB W v l := by
  obtain ⟨a, len, cap, rfl⟩ := okWide_slice ht ok
  obtain ⟨fuel, hf⟩ := h
  rcases open_ints ht he hc hf with ⟨hcs, _⟩ | ⟨x, l, c, zs, hcs, _, hl, hm, hz, _, hcell, hwz⟩
  · simp [Value.cells] at hcs
    obtain ⟨rfl, rfl, rfl⟩ := hcs
    exact ⟨[], RB.nil W⟩
  · simp [Value.cells] at hcs
    obtain ⟨rfl, rfl, rfl⟩ := hcs
    obtain ⟨g, off, cur, el, fz, rfl, hg⟩ := okWide_block ht ok
    have hzl : len ≤ zs.length := by rw [hz]; split <;> omega
    have hlen : ((zs.take len).map fun z => UInt8.ofNat z.toNat).length = len := by simp; omega
    refine ⟨(zs.take len).map fun z => UInt8.ofNat z.toNat, ?_⟩
    unfold RB
    rw [hlen]
    refine ⟨by rw [bs_length, hlen]; omega, bs_one, .inr ⟨g, off, cap, cur, el, fz, rfl, hg, ?_, hl, hm⟩⟩
    rw [Nat.mul_one]
    refine cells_take hg (by rw [bs_length, hlen]) fun j u hu => ?_
    have hj : j < len := by
      have := (List.getElem?_eq_some_iff.1 hu).1
      rw [bs_length, hlen] at this; exact this
    have h1 := hcell j (by omega)
    rw [addr_add] at h1
    rw [h1, ← hu, bs_get, List.getElem?_map, List.getElem?_take, if_pos hj, List.getElem?_eq_getElem (by omega)]
    have hm : zs[j] ∈ zs := List.getElem_mem _
    have hw := hwz _ hm
    simp only [Lit.wf, Bool.and_eq_true, decide_eq_true_eq] at hw
    have e1 : IntKind.u8.min = 0 := rfl
    have e2 : IntKind.u8.max = 255 := rfl
    have hgd : zs.getD j 0 = zs[j] := by rw [List.getD_eq_getElem?_getD, List.getElem?_eq_getElem (by omega)]; rfl
    rw [hgd]
    generalize zs[j] = z at *
    simp only [Option.map_some, Option.some.injEq, Value.int.injEq, true_and]
    unfold by8
    rw [UInt8.toNat_ofNat']
    omega
end Go.Proofs.Ytbdkicmdidcdcaa
namespace Go.Proofs.Ytbdkicmdidcdcaa
open Go.RowKit

/-- A number's bytes, seven bits each, the lowest first. -/
def uvF : Nat → Nat → List UInt8
  | 0, _ => []
  | f + 1, u => if u < 128 then [UInt8.ofNat u] else UInt8.ofNat (u % 128 + 128) :: uvF f (u / 128)
def uv (u : Nat) : List UInt8 := uvF 10 u
def zig (n : Int) : Nat := if n < 0 then (-2 * n - 1).toNat else (2 * n).toNat
def putN (n : Int) : List UInt8 := uv (zig n)

theorem uvF_more : ∀ (f : Nat) (u : Nat), u < 128 ^ (f + 1) → uvF (f + 2) u = uvF (f + 1) u
  | 0, u, h => by
    have : u < 128 := by simpa using h
    simp [uvF, this]
  | f + 1, u, h => by
    rw [show uvF (f + 1 + 2) u = (if u < 128 then [UInt8.ofNat u] else UInt8.ofNat (u % 128 + 128) :: uvF (f + 2) (u / 128)) from rfl,
      show uvF (f + 1 + 1) u = (if u < 128 then [UInt8.ofNat u] else UInt8.ofNat (u % 128 + 128) :: uvF (f + 1) (u / 128)) from rfl]
    by_cases hu : u < 128
    · rw [if_pos hu, if_pos hu]
    · rw [if_neg hu, if_neg hu, uvF_more f (u / 128) (by rw [Nat.pow_succ] at h; omega)]
theorem uv_small (u : Nat) (h : u < 128) : uv u = [UInt8.ofNat u] := by simp [uv, uvF, h]
theorem uv_step (u : Nat) (h : ¬ u < 128) (h2 : u < 18446744073709551616) : uv u = UInt8.ofNat (u % 128 + 128) :: uv (u / 128) := by
  show uvF 10 u = _ :: uvF 10 (u / 128)
  rw [uvF, if_neg h, uvF_more 8 (u / 128) (by simp only [Nat.reduceAdd, Nat.reducePow]; omega)]
theorem uvF_length : ∀ (f u : Nat), (uvF f u).length ≤ f
  | 0, u => by simp [uvF]
  | f + 1, u => by
    rw [uvF]; split
    · simp
    · have := uvF_length f (u / 128); simp; omega
theorem uv_length (u : Nat) : (uv u).length ≤ 10 := uvF_length 10 u
theorem putN_length (n : Int) : (putN n).length ≤ 10 := uv_length _
theorem uv_ne (u : Nat) : uv u ≠ [] := by unfold uv uvF; split <;> simp
theorem uv_pos (u : Nat) : 0 < (uv u).length := List.length_pos_iff.2 (uv_ne u)
theorem putN_pos (n : Int) : 0 < (putN n).length := uv_pos _
theorem zig_lt (n : Int) (h0 : -9223372036854775808 ≤ n) (h1 : n ≤ 9223372036854775807) : zig n < 18446744073709551616 := by unfold zig; split <;> omega
def zigW (n : Int) : UInt64 := UInt64.ofNat (zig n)
theorem zigW_nat (n : Int) (h0 : -9223372036854775808 ≤ n) (h1 : n ≤ 9223372036854775807) : (zigW n).toNat = zig n := by
  unfold zigW; rw [UInt64.toNat_ofNat']; exact Nat.mod_eq_of_lt (zig_lt n h0 h1)
theorem putN_zigW (n : Int) (h0 : -9223372036854775808 ≤ n) (h1 : n ≤ 9223372036854775807) : putN n = uv (zigW n).toNat := by rw [zigW_nat n h0 h1]; rfl

theorem wrap_u64 (n : Int) : IntKind.u64.wrap n = n % 18446744073709551616 := by simp [IntKind.wrap, IntKind.bits, IntKind.signed]
theorem zig_pos (n : Int) (h0 : 0 ≤ n) (h1 : n ≤ 9223372036854775807) : IntKind.u64.wrap (IntKind.u64.wrap n * 2) = (zigW n).toNat := by
  rw [zigW_nat n (by omega) h1, wrap_u64, wrap_u64]; unfold zig; rw [if_neg (by omega)]; omega
theorem zig_neg0 (n : Int) (h0 : -9223372036854775808 ≤ n) (h1 : n < 0) : IntKind.u64.wrap (IntKind.u64.wrap n * 2) = ((18446744073709551615 - zig n : Nat) : Int) := by
  have := zig_lt n h0 (by omega)
  rw [wrap_u64, wrap_u64]; unfold zig at *; rw [if_pos h1] at *; omega
theorem xor_max (u : Nat) (h : u < 18446744073709551616) : 18446744073709551615 ^^^ u = 18446744073709551615 - u := by
  have h1 := BitVec.not_def (x := BitVec.ofNat 64 u)
  have h2 : (~~~ (BitVec.ofNat 64 u)).toNat = 2 ^ 64 - 1 - u := by rw [BitVec.toNat_not, BitVec.toNat_ofNat, Nat.mod_eq_of_lt (by simpa using h)]
  rw [h1, BitVec.toNat_xor, BitVec.toNat_allOnes, BitVec.toNat_ofNat, Nat.mod_eq_of_lt (by simpa using h)] at h2
  exact h2
theorem zig_neg (n : Int) (h0 : -9223372036854775808 ≤ n) (h1 : n < 0) : bits BinOp.xor IntKind.u64 IntKind.u64.max (IntKind.u64.wrap (IntKind.u64.wrap n * 2)) = (zigW n).toNat := by
  have hz := zig_lt n h0 (by omega)
  rw [zig_neg0 n h0 h1, zigW_nat n h0 (by omega), show IntKind.u64.max = ((18446744073709551615 : Nat) : Int) from rfl, u64_xor_nat _ _ (by omega) (by omega), xor_max _ (by omega)]
  omega

/-- The byte of a u64 with its eighth bit. -/
theorem or128 (u : UInt64) : bits BinOp.or IntKind.u8 ((u.toNat : Int) % 256) 128 = by8 (UInt8.ofNat (u.toNat % 128 + 128)) := by
  unfold by8
  have e : ((u.toNat : Int) % 256) = ((u.toNat % 256 : Nat) : Int) := by omega
  rw [e, show (128 : Int) = ((128 : Nat) : Int) from rfl, u8_or_nat _ _ (by omega) (by omega), UInt8.toNat_ofNat']
  have h : ∀ x : Fin 256, x.val ||| 128 = x.val % 128 + 128 := by decide +kernel
  have h' : u.toNat % 256 ||| 128 = u.toNat % 256 % 128 + 128 := h ⟨u.toNat % 256, by omega⟩
  rw [h']
  omega
theorem div128 (u : UInt64) : (u.toNat : Int) / 128 = ((UInt64.ofNat (u.toNat / 128)).toNat : Int) := by
  rw [UInt64.toNat_ofNat']; have := u.toNat_lt; omega
theorem div128n (u : UInt64) : (UInt64.ofNat (u.toNat / 128)).toNat = u.toNat / 128 := by
  rw [UInt64.toNat_ofNat']; have := u.toNat_lt; omega
theorem wdiv128 (u : UInt64) : IntKind.u64.wrap ((u.toNat : Int) / 128) = ((UInt64.ofNat (u.toNat / 128)).toNat : Int) := by
  rw [wrap_u64, div128n]; have := u.toNat_lt; omega
theorem uv_step64 (u : UInt64) (h : ¬ u.toNat < 128) : uv u.toNat = UInt8.ofNat (u.toNat % 128 + 128) :: uv (UInt64.ofNat (u.toNat / 128)).toNat := by
  rw [div128n]; exact uv_step _ h u.toNat_lt
end Go.Proofs.Ytbdkicmdidcdcaa
namespace Go.Proofs.Ytbdkicmdidcdcaa
open Go.RowKit
theorem Try.info5 : (Try.prog.info? 5).map (fun i => (i.zero, i.size, i.bytes)) = some (some (.int .u8 0), 1, 1) := by kernel_rfl

set_option maxRecDepth 100000 in
set_option maxHeartbeats 400000 in
theorem Put_any (base : Nat) (n : Int) (v : Value) (l : List UInt8) (w : World) (h0 : -9223372036854775808 ≤ n) (h1 : n ≤ 9223372036854775807)
    (hv : OB base w v l) (hl : l.length ≤ 1000000000) (hbase : base ≤ w.heap.size) :
    Calls Try.prog 39 #[v, .int .i64 n] w fun e w' => ∃ v', e = .returned v' ∧ OB base w' v' (l ++ putN n) ∧ Gw w v w' v' := by
  have hz := putN_zigW n h0 h1
  have HP : Hid (putN n = uv (zigW n).toNat) := hz
  have HA : Hid (0 ≤ n → IntKind.u64.wrap (IntKind.u64.wrap n * 2) = (zigW n).toNat) := fun h => zig_pos n h h1
  have HB : Hid (n < 0 → bits BinOp.xor IntKind.u64 IntKind.u64.max (IntKind.u64.wrap (IntKind.u64.wrap n * 2)) = (zigW n).toNat) := fun h => zig_neg n h0 h
  clear hz h0 h1
  by_cases hneg : n < 0
  all_goals
   go_enter Try.func39, Try.ntmps39
   go_wp2_with fail
   first | rw [HB.out hneg] | rw [HA.out (by omega)]
   go_loopw [0, 5] (fun x u wr => ∃ (d : List UInt8) (u' : UInt64), u = .int .u64 u'.toNat ∧ OB base wr x (l ++ d) ∧ Gw w v wr x ∧ d ++ uv u'.toNat = putN n) (fun _ u _ => (intOf u).toNat)
   case atStart => exact ⟨[], zigW n, rfl, by simpa using hv, Gw.refl _ _, HP.out.symm⟩
   case round =>
    obtain ⟨d, u', rfl, hx, hg, hd⟩ := hrel
    have hdl : d.length ≤ 10 := by have := putN_length n; rw [← hd] at this; simp at this; omega
    have hb : base ≤ wr.heap.size := Nat.le_trans hbase hg.fr.size
    have HD : Hid (d ++ uv u'.toNat = putN n) := hd
    clear hd
    by_cases hlt : u'.toNat < 128
    · have HS : Hid (uv u'.toNat = [UInt8.ofNat u'.toNat]) := uv_small _ hlt
      go_wp2_with (at_builtin; refine wpList_append_byte rfl (.tmp 23) (.tmp 26) 22 rfl 5 Try.underlying22 Try.info5 hx rfl _ _ rfl (UInt8.ofNat u'.toNat) ?c2 ?c3 ?c4 ?c5)
      case c2 => unfold by8; rw [UInt8.toNat_ofNat', Nat.mod_eq_of_lt (by omega)]
      case c3 => simp; omega
      case c4 => exact hb
      case c5 =>
       intro v' w' hv' hg'
       go_wp2
       go_ret
       refine ⟨_, rfl, ?_, hg.trans hg'⟩
       rw [← HD.out, HS.out, ← List.append_assoc]
       simpa using hv'
    · have HS : Hid (uv u'.toNat = UInt8.ofNat (u'.toNat % 128 + 128) :: uv (UInt64.ofNat (u'.toNat / 128)).toNat) := uv_step64 u' hlt
      go_wp2_with (at_builtin; refine wpList_append_byte rfl (.tmp 15) (.tmp 19) 22 rfl 5 Try.underlying22 Try.info5 hx rfl _ _ rfl (UInt8.ofNat (u'.toNat % 128 + 128)) ?d2 ?d3 ?d4 ?d5)
      case d2 => rw [or128]
      case d3 => simp; omega
      case d4 => exact hb
      case d5 =>
       intro v' w' hv' hg'
       go_wp2
       go_roundw
       case rel => exact ⟨d ++ [UInt8.ofNat (u'.toNat % 128 + 128)], UInt64.ofNat (u'.toNat / 128), by rw [div128], by simpa using hv', hg.trans hg', by rw [← HD.out, HS.out]; simp⟩
       case measure => simp [intOf]; omega
end Go.Proofs.Ytbdkicmdidcdcaa
