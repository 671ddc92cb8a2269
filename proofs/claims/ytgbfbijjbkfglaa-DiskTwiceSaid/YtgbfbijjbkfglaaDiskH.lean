/-
  Names: what it computes.
-/
import Derived.Test.YtgbfbijjbkfglaaDiskG
import Derived.Test.YtgbfbijjbkfglaaIter
import Derived.Sort.KeysCollected
namespace Go.Proofs.Ytgbfbijjbkfglaa
open Go.RowKit Go.Maps Go.Sort Go.Shelf

theorem mem_strKeys {P : Program} {k : TypeId} (hk : P.underlying k = some .string) {R : Value → Option (DataW Nat × List MemPlace)} {w : World} {b n : Nat} {D : DataW Nat} (h : w.ownsMap P k R b n D) (x : List UInt8) :
    x ∈ strKeys D ↔ Maps.has D (.string x) = true := by
  obtain ⟨es, rfl, hes⟩ := h.keysOf
  rw [Maps.has_eq, List.any_eq_true]
  show x ∈ es.map (fun p => strOf p.1) ↔ _
  rw [List.mem_map]
  constructor
  · rintro ⟨p, hp, rfl⟩
    obtain ⟨key, hkey⟩ := hes p hp
    obtain ⟨y, _, hy, _⟩ := Maps.keyOf_str hk hkey
    exact ⟨p, hp, by rw [hy]; exact WideAt.sameKey_self (by simp [WideAt.IsKeyLit])⟩
  · rintro ⟨p, hp, hs⟩
    have := (WideAt.sameKey_iff (a := p.1) (b := .string x) (by simp [WideAt.IsKeyLit])).1 hs
    exact ⟨p, hp, by rw [this]; rfl⟩
theorem nodup_strKeys {P : Program} {k : TypeId} (hk : P.underlying k = some .string) {R : Value → Option (DataW Nat × List MemPlace)} {w : World} {b n : Nat} {D : DataW Nat} (h : w.ownsMap P k R b n D) : (strKeys D).Nodup := by
  obtain ⟨es, rfl, hes⟩ := h.keysOf
  obtain ⟨es', he, hp⟩ := h.tidy (string_keyed hk)
  cases he
  show (es.map fun p => strOf p.1).Nodup
  refine List.pairwise_map.2 (hp.imp_of_mem fun {p q} hp' hq' hne e => hne ?_)
  obtain ⟨key, hkey⟩ := hes p hp'
  obtain ⟨y, _, hy, _⟩ := Maps.keyOf_str hk hkey
  obtain ⟨key2, hkey2⟩ := hes q hq'
  obtain ⟨y2, _, hy2, _⟩ := Maps.keyOf_str hk hkey2
  rw [hy, hy2] at e ⊢
  exact congrArg _ e

theorem short_strKeys {P : Program} {k : TypeId} (hk : P.underlying k = some .string) {R : Value → Option (DataW Nat × List MemPlace)} {w : World} {b n : Nat} {D : DataW Nat} (h : w.ownsMap P k R b n D) (x : List UInt8) (hx : x ∈ strKeys D) : x.length ≤ maxLen := by
  obtain ⟨es, rfl, hes⟩ := h.keysOf
  replace hx : x ∈ es.map (fun p => strOf p.1) := hx
  obtain ⟨p, hp, rfl⟩ := List.mem_map.1 hx
  obtain ⟨key, hkey⟩ := hes p hp
  obtain ⟨y, _, hy, hl⟩ := Maps.keyOf_str hk hkey
  rw [hy]; exact hl

/-- Names in order, those that there are. -/
structure NamesOf (M : List UInt8 → Option Fl) (L : List (List UInt8)) : Prop where
  mem : ∀ x, x ∈ L ↔ M x ≠ none
  nodup : L.Nodup
  sorted : L.Pairwise (· ≤ ·)
  short : ∀ x ∈ L, x.length ≤ maxLen

theorem Rd.of_owns {w : World} {base : Nat} {e : TypeId} {v : Value} {n : Nat} {xs : List Value} (h : w.ownsRow base e 1 v n xs) (h1 : ∀ u ∈ xs, u.oneCell' = true) : Rd 1 w v n xs := by
  obtain ⟨h2, ⟨rfl, rfl⟩ | ⟨g, cap, cur, rfl, _, hg, h3, h4, _, h6⟩⟩ := h
  · exact ⟨h2, h1, .inl ⟨rfl, rfl⟩⟩
  · exact ⟨h2, h1, .inr ⟨g, 0, cap, cur, e, (0, 0), rfl, hg, by simpa using h6, h3, h4⟩⟩
theorem newer_of_owns {w w0 : World} {base : Nat} {e : TypeId} {v : Value} {n : Nat} {xs : List Value} (h : w.ownsRow base e 1 v n xs) (hb : w0.heap.size ≤ base) : Newer w0 v := fun k hk => Nat.le_trans hb (h.lt k hk).1

set_option maxRecDepth 100000 in
set_option maxHeartbeats 1000000 in
theorem DNames_any (d : Value) (ρ : Nat → Role) (M : List UInt8 → Option Fl) (c q : Nat) (w : World) (h : DK w ρ d M c q) (hc : c + q ≤ 1000000) :
    Calls Try.prog 26 #[d] w fun e w' => ∃ v L, e = .returned v ∧ NamesOf M L ∧ L.length ≤ c + q ∧ No w w' ∧ Rd 1 w' v L.length (L.map encStr) ∧ Newer w v := by
  obtain ⟨db, mb, n, D, rfl, h⟩ := h
  have h0 : w.cell? ⟨db, 0, none⟩ = some (.map (some mb)) := by rw [cell_of_row _ _ _ _ _ _ h.cell]; rfl
  have hsz : Maps.size D ≤ n := h.own.size_le
  have HD := _root_.Go.Lib.hid h
  have HS := _root_.Go.Lib.hid hsz
  have HC := _root_.Go.Lib.hid hc
  clear h hsz hc
  refine (callsIn_wide (n := 6)).1 ?_
  have hfK : Fence.wide.fn 33 := trivial
  have hfS : Fence.wide.fn 32 := trivial
  refine callsIn_of_wp Try.func26 rfl trivial ?_ rfl
  simp only [Try.ntmps26, List.size_toArray, List.length_cons, List.length_nil, Nat.reduceAdd, Nat.reduceSub, Array.replicate_succ, Array.replicate_zero, List.push_toArray, List.append_toArray, List.nil_append, List.cons_append]
  gi_wp2_with (first
    | (gi_at_call 33; refine (Try.maps_Keys_33 _ _).mono ?_; rintro e w' ⟨rfl, rfl⟩)
    | (gi_at_call 32; refine (Try.slices_Sorted_keys_32_33 mb n D ptrElem w HD.out.own (by have := HS.out; have := HD.out.fit; have := HC.out; unfold maxLen; omega) (by have := HS.out; have := HD.out.fit; have := HC.out; omega)).mono ?_; rintro e w' ⟨v, ss, rfl, hS, hrow, hnil, hb⟩; have Y1 := _root_.Go.Lib.hid hS; have Y2 := _root_.Go.Lib.hid hrow; have Y3 := _root_.Go.Lib.hid hb; clear hS hrow hnil hb))
  go_ret
  have hlen : (ss.mergeSort (fun x y => decide (x ≤ y))).length = ss.length := List.length_mergeSort _
  have hperm : (ss.mergeSort (fun x y => decide (x ≤ y))).Perm (strKeys D) := (List.mergeSort_perm _ _).trans Y1.out
  have hkl : (strKeys D).length = Maps.size D := by
    obtain ⟨es, rfl, _⟩ := HD.out.own.keysOf
    simp [strKeys, Maps.size]
  refine ⟨v, ss.mergeSort (fun x y => decide (x ≤ y)), rfl, ⟨fun x => ?_, hperm.nodup_iff.2 (nodup_strKeys Try.underlying9 HD.out.own), ?_, fun x hx => short_strKeys Try.underlying9 HD.out.own x (hperm.mem_iff.1 hx)⟩, ?_, ?_, ?_, ?_⟩
  · rw [hperm.mem_iff, mem_strKeys Try.underlying9 HD.out.own]
    have hf := HD.out.files x
    cases hM : M x with
    | none => rw [hM] at hf; rw [show Maps.has D (.string x) = false from hf]; simp
    | some f =>
      rw [hM] at hf
      obtain ⟨b, u, h1, _⟩ := hf
      rw [Maps.has_true_of_atKey h1]; simp
  · have := List.pairwise_mergeSort (le := fun x y : List UInt8 => decide (x ≤ y)) (fun a b c h1 h2 => by simp only [decide_eq_true_eq] at *; exact List.le_trans h1 h2) (fun a b => by simp only [Bool.or_eq_true, decide_eq_true_eq]; exact List.le_total a b) ss
    exact this.imp fun h => by simpa using h
  · rw [hperm.length_eq, hkl]; have := HS.out; have := HD.out.fit; omega
  · exact ((Fr.refl _ w).alloc _).trans (Fr.of_below Y3.out) (fun i hi e => by simp at e; omega)
  · rw [hlen]; exact Rd.of_owns Y2.out (fun u hu => by obtain ⟨x, _, rfl⟩ := List.mem_map.1 hu; rfl)
  · exact newer_of_owns Y2.out (by simp)
end Go.Proofs.Ytgbfbijjbkfglaa
