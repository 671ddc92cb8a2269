/-
  disk.New, may, Calls, Loose, bytes.Clone: what they compute.
-/
import Derived.Test.YtgbfbijjbkfglaaDiskA
namespace Go.Proofs.Ytgbfbijjbkfglaa
open Go.RowKit Go.Maps

def emptyRole (db mb : Nat) : Nat → Role := fun k => if k = db then .hdr else if k = mb then .mp else .no

set_option maxRecDepth 100000 in
theorem DNew_any (w : World) : Calls Try.prog 11 #[] w fun e w' => ∃ d ρ', e = .returned d ∧ DK w' ρ' d (fun _ => none) 0 0 ∧ No w w' ∧ ∀ k, ρ' k ≠ .no → w.heap.size ≤ k := by
  have hmm := @run_makeMap Try.prog
  go_enter Try.func11, Try.ntmps11
  go_wp2
  go_ret
  refine ⟨_, emptyRole (w.heap.size + 1) w.heap.size, rfl, ⟨w.heap.size + 1, w.heap.size, 0, .map [], by simp, ?_⟩, ((Fr.refl _ w).alloc _).alloc _, ?_⟩
  · refine ⟨by simp [emptyRole], by simp [emptyRole], heap_last2 _ _ _, ?_, Nat.le_refl _, fun nm => rfl, ?_⟩
    · exact (World.ownsMap_made w _ _ _).alloc _
    · intro k hk
      simp only [emptyRole] at hk
      split at hk
      · simp; omega
      · split at hk
        · simp; omega
        · exact absurd rfl hk
  · intro k hk
    simp only [emptyRole] at hk
    split at hk
    · omega
    · split at hk
      · omega
      · exact absurd rfl hk

/-- May a name be? -/
def okc (l : List UInt8) : Bool := l.all fun x => decide (97 ≤ by8 x ∧ by8 x ≤ 122)
def good (l : List UInt8) : Bool := okc l && decide (0 < l.length ∧ l.length ≤ 10)
theorem okc_snoc (l : List UInt8) (i : Nat) (h : i < l.length) : okc (l.take (i + 1)) = (okc (l.take i) && decide (97 ≤ by8 (l.getD i 0) ∧ by8 (l.getD i 0) ≤ 122)) := by
  rw [List.take_succ_eq_append_getElem h]; simp only [okc, List.all_append]; simp [h]
theorem okc_false (l : List UInt8) (i : Nat) (h : i < l.length) (hf : ¬ (97 ≤ by8 (l.getD i 0) ∧ by8 (l.getD i 0) ≤ 122)) : okc l = false := by
  rw [← Bool.not_eq_true]
  intro hk
  simp only [okc, List.all_eq_true, decide_eq_true_eq] at hk
  exact hf (by have := hk l[i] (List.getElem_mem h); rw [List.getD_eq_getElem?_getD, List.getElem?_eq_getElem h]; exact this)

theorem by8_get (s : ByteArray) (i : Nat) (hi : i < s.size) : ((s[i]'hi).toNat : Int) = by8 (s.data.toList.getD i 0) := by
  rw [List.getD_eq_getElem?_getD, Array.getElem?_toList, Array.getElem?_eq_getElem hi]
  rfl

set_option maxRecDepth 100000 in
theorem may_any (name : ByteArray) (w : World) (hsz : name.size ≤ maxLen) : Calls Try.prog 28 #[.string name] w fun e w' => e = .returned (.bool (good name.data.toList)) ∧ w' = w := by
  have hm : (name.size : Int) ≤ 9223372036854775807 := by unfold maxLen at hsz; omega
  have HL : Hid (name.data.toList.length = name.size) := by show _ = _; rw [Array.length_toList]; rfl
  go_enter Try.func28, Try.ntmps28
  go_wp2
  go_loopw [6] (fun x wr => wr = w ∧ ∃ i : Nat, i ≤ name.size ∧ x = .int .i64 i ∧ okc (name.data.toList.take i) = true) (fun x _ => name.size - (intOf x).toNat)
  case atStart => exact ⟨rfl, 0, by omega, rfl, rfl⟩
  case round =>
    obtain ⟨rfl, i, hi, rfl, hok⟩ := hrel
    have HO := _root_.Go.Lib.hid hok
    clear hok
    by_cases hin : i < name.size
    · have h1 : (i : Int) < name.size := by omega
      have h0 : (0 : Int) ≤ i := by omega
      have hb := by8_get name i hin
      have HB : Hid (by8 (name.data.toList.getD i 0) = ((name[i]'hin).toNat : Int)) := _root_.Go.Lib.hid hb.symm
      clear hb
      by_cases ha : ((name[i]'hin).toNat : Int) < 97
      · go_wp2
        go_ret
        refine ⟨ret_bool ?_, rfl⟩
        rw [good, okc_false _ i (by rw [HL.out]; exact hin) (by rw [HB.out]; omega)]; rfl
      · by_cases hz : 122 < ((name[i]'hin).toNat : Int)
        · go_wp2
          go_ret
          refine ⟨ret_bool ?_, rfl⟩
          rw [good, okc_false _ i (by rw [HL.out]; exact hin) (by rw [HB.out]; omega)]; rfl
        · go_wp2
          go_roundw
          case rel => exact ⟨trivial, i + 1, by omega, by go_num, by rw [okc_snoc _ _ (by rw [HL.out]; exact hin), HO.out, HB.out]; simp; omega⟩
          case measure => simp [intOf]; omega
    · obtain rfl : i = name.size := by omega
      have HT : Hid (okc name.data.toList = true) := by show _ = _; rw [← HO.out, ← HL.out, List.take_length]
      have HZ : Hid (name.toList = name.data.toList) := by show _ = _; exact _root_.Go.ByteArray.toList_eq name
      by_cases he : name.toList = []
      · go_wp2
        go_ret
        refine ⟨ret_bool ?_, rfl⟩
        rw [HZ.out] at he
        rw [good, he]; rfl
      · have hp : 0 < name.size := by
          rcases Nat.eq_zero_or_pos name.size with h | h
          · exact absurd (by rw [HZ.out]; exact List.eq_nil_of_length_eq_zero (by rw [HL.out, h])) he
          · exact h
        by_cases h10 : (name.size : Int) ≤ 10
        · go_wp2
          go_ret
          refine ⟨ret_bool ?_, rfl⟩
          rw [good, HT.out, HL.out, Bool.true_and, decide_eq_true (show 0 < name.size ∧ name.size ≤ 10 from ⟨hp, by omega⟩)]; simpa using he
        · go_wp2
          go_ret
          refine ⟨ret_bool ?_, rfl⟩
          rw [good, HT.out, HL.out, Bool.true_and]; exact (decide_eq_false (show ¬ (0 < name.size ∧ name.size ≤ 10) by omega)).symm

set_option maxRecDepth 100000 in
theorem DCalls_any (d : Value) (ρ : Nat → Role) (M : List UInt8 → Option Fl) (c q : Nat) (w : World) (h : DK w ρ d M c q) : Calls Try.prog 27 #[d] w fun e w' => e = .returned (.int .i64 c) ∧ w' = w := by
  obtain ⟨db, mb, n, D, rfl, h⟩ := h
  have h1 : w.cell? ⟨db, 1, none⟩ = some (.int .i64 c) := by rw [cell_of_row _ _ _ _ _ _ h.cell]; rfl
  clear h
  go_enter Try.func27, Try.ntmps27
  go_wp2
  go_ret
  exact ⟨rfl, rfl⟩
theorem OB.empty (base : Nat) (w : World) (e : TypeId) : OB base (w.alloc (.cells #[] e)) (.slice (some ⟨w.heap.size, 0, none⟩) 0 0) [] :=
  ⟨rfl, by simp [bs], .inr ⟨w.heap.size, 0, 0, #[], e, (0, 0), rfl, heap_alloc_new w _, rfl, Nat.le_refl _, by unfold maxLen; omega, .inl rfl⟩⟩

/-- v lies in a block that was not there in w. -/
def Newer (w : World) (v : Value) : Prop := ∀ k, v.ownBlock = some k → w.heap.size ≤ k
theorem Newer.nil (w : World) : Newer w (.slice none 0 0) := fun k h => by simp [Value.ownBlock] at h

set_option maxRecDepth 100000 in
set_option maxHeartbeats 400000 in
theorem BClone_any (v : Value) (l : List UInt8) (w : World) (h : RA w v l) (hl : l.length ≤ 10000000000) :
    Calls Try.prog 29 #[v] w fun e w' => ∃ v', e = .returned v' ∧ OB 0 w' v' l ∧ No w w' ∧ Newer w v' ∧ ((v' = .slice none 0 0 ↔ v = .slice none 0 0) ∧ OWr w' v' l) := by
  have q28 : ∀ (w : World) (a : Option Addr) (n c n' c' : Nat), (binOp .eql 22 (.slice a n c) (.slice none n' c')).run Try.prog w = .ok (.bool a.isNone) w := fun w a n c n' c' => _root_.Go.Lib.run_eql_slice_nil w _ _ a n c n' c' Try.underlying22
  have HV := _root_.Go.Lib.hid h
  rcases h with ⟨rfl, rfl⟩ | ⟨ad, cap, rfl, h1, _, _⟩
  · skip
    go_enter Try.func29, Try.ntmps29
    go_wp2
    go_ret
    exact ⟨_, rfl, OB.nil _ _, Fr.refl _ _, Newer.nil _, by simp, OWr.nil _⟩
  · skip
    go_enter Try.func29, Try.ntmps29
    go_wp2_with (at_builtin; refine wpList_append_fresh rfl (.tmp 5) (.tmp 6) 22 22 rfl 5 Try.underlying22 Try.info5 (some ⟨w.heap.size, 0, none⟩) (.inr ⟨_, _, rfl, heap_alloc_new w _⟩) rfl _ rfl l (RA.src Try.underlying22 (HV.out.alloc _)) (by omega) ?_; intro v' w' hv' hg ho hn; have X1 := _root_.Go.Lib.hid hv'; have X2 := _root_.Go.Lib.hid hg; have X3 := _root_.Go.Lib.hid ho; have X4 := _root_.Go.Lib.hid hn; clear hv' hg ho hn)
    go_ret
    refine ⟨v', rfl, X1.out.ob, ((Fr.refl _ w).alloc _).trans X2.out (fun _ _ a => a), fun k hk => ?_, ?_, X1.out⟩
    · rcases X3.out k hk with ⟨a, ha, rfl⟩ | h
      · cases ha; exact Nat.le_refl _
      · simp at h; omega
    · have := X4.out; simp at this; simp [this]
end Go.Proofs.Ytgbfbijjbkfglaa
