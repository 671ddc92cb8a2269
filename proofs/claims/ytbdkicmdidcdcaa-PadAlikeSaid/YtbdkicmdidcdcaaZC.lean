/-
  (*State).Write. (*State).Copy, (*State).Sum. (*State).Sum. sha.Sum of parts. Blocks of bytes: read as slices, copied into; slices of slices.
-/
import Derived.Test.YtbdkicmdidcdcaaZB
import Derived.Deep.LoopGhost
import Derived.Laws.CopyRow
import Derived.Laws.IdiomCopy
import Derived.Deep.RegionHeld3
import Derived.Deep.DrawnRows
namespace Go.Proofs.Ytbdkicmdidcdcaa
open Go.RowKit

theorem shaC_rest (v : V8) (r r' : Value) (n : UInt64) : (shaC v.l r n).setIfInBounds 8 r' = shaC v.l r' n := rfl
theorem shaC_num (v : V8) (r : Value) (n n' : UInt64) : (shaC v.l r n).setIfInBounds 9 (.int .u64 (wq n')) = shaC v.l r n' := rfl
theorem wq_add (a b : Nat) : IntKind.u64.wrap (wq (UInt64.ofNat a) + (b : Int)) = wq (UInt64.ofNat (a + b)) := by
  unfold wq; rw [wrap_u64, UInt64.toNat_ofNat', UInt64.toNat_ofNat']; omega

/-- A State of the message m, at p; what is no whole block lies in rv. -/
structure IsSha (base : Nat) (w : World) (p : Nat) (m : List UInt8) (rv : Value) : Prop where
  cells : w.heap[p]? = some (.cells (shaC (shv m).l rv (UInt64.ofNat m.length)) 119 (0, 0))
  rest : OB base w rv (shr m)
  ne : rv.ownBlock ≠ some p
  pos : base ≤ p
  own : ∀ k, rv.ownBlock = some k → base ≤ k

theorem OB.setCell {base : Nat} {w : World} {v : Value} {l : List UInt8} (h : OB base w v l) (a : Addr) (u : Value) (hn : v.ownBlock ≠ some a.block) : OB base (w.setCell a u) v l :=
  Ow.keep h fun k hk => Below.heap_setCell _ _ _ _ (fun e => hn (by rw [hk, e]))
theorem RB.setCell {w : World} {v : Value} {l : List UInt8} (h : RB w v l) (a : Addr) (u : Value) (hn : v.ownBlock ≠ some a.block) : RB (w.setCell a u) v l :=
  Rd.keep h fun k hk => Below.heap_setCell _ _ _ _ (fun e => hn (by rw [hk, e]))

theorem RB.take {w : World} {g off n cap : Nat} {l : List UInt8} (h : RB w (.slice (some ⟨g, off, none⟩) n cap) l) (k : Nat) (hk : k ≤ l.length) : RB w (.slice (some ⟨g, off, none⟩) k cap) (l.take k) := by
  obtain ⟨h1, h2, ⟨h3, _⟩ | ⟨g', off', cap', cur, e, fz, hv, b, c, d, d'⟩⟩ := h
  · cases h3
  · obtain ⟨⟨rfl, rfl⟩, rfl, rfl⟩ : (g = g' ∧ off = off') ∧ n = l.length ∧ cap = cap' := by simpa using hv
    have hl : (l.take k).length = k := by rw [List.length_take]; omega
    refine ⟨by rw [bs_length]; omega, bs_one, .inr ⟨g, off, cap, cur, e, fz, by rw [hl], b, ?_, by omega, d'⟩⟩
    rw [hl, show bs (l.take k) = (bs l).take k from by simp [bs, List.map_take], ← c, List.take_take]
    congr 1; omega
theorem RB.drop {w : World} {g off n cap : Nat} {l : List UInt8} (h : RB w (.slice (some ⟨g, off, none⟩) n cap) l) (k : Nat) (hk : k ≤ l.length) : RB w (.slice (some ⟨g, off + k, none⟩) (n - k) (cap - k)) (l.drop k) := by
  obtain ⟨h1, h2, ⟨h3, _⟩ | ⟨g', off', cap', cur, e, fz, hv, b, c, d, d'⟩⟩ := h
  · cases h3
  · obtain ⟨⟨rfl, rfl⟩, rfl, rfl⟩ : (g = g' ∧ off = off') ∧ n = l.length ∧ cap = cap' := by simpa using hv
    have hl : (l.drop k).length = l.length - k := by rw [List.length_drop]
    refine ⟨by rw [bs_length]; omega, bs_one, .inr ⟨g, off + k, cap - k, cur, e, fz, by rw [hl], b, ?_, by omega, by omega⟩⟩
    rw [hl, show bs (l.drop k) = (bs l).drop k from by simp [bs, List.map_drop], ← c, List.drop_take, List.drop_drop]
    congr 1; omega
theorem RB.dropAll {w : World} {g off n cap : Nat} {l : List UInt8} (h : RB w (.slice (some ⟨g, off, none⟩) n cap) l) : RB w (.slice (some ⟨g, off, none⟩) 0 0) [] := by
  obtain ⟨h1, h2, ⟨h3, _⟩ | ⟨g', off', cap', cur, e, fz, hv, b, c, d, d'⟩⟩ := h
  · cases h3
  · obtain ⟨⟨rfl, rfl⟩, rfl, rfl⟩ : (g = g' ∧ off = off') ∧ n = l.length ∧ cap = cap' := by simpa using hv
    exact ⟨rfl, bs_one, .inr ⟨g, off, 0, cur, e, fz, rfl, b, rfl, Nat.le_refl _, by omega⟩⟩
theorem mixK_step (v : V8) (l : List UInt8) (j : Nat) : mixB (mixK v l j) ((l.drop (64 * j)).take 64) = mixK v l (j + 1) := rfl
theorem RB.own {w : World} {v : Value} {l : List UInt8} (h : RB w v l) : ∀ k, v.ownBlock = some k → k < w.heap.size := Rd.lt h

set_option maxRecDepth 100000 in
set_option maxHeartbeats 1000000 in
theorem Write_any (base p : Nat) (m : List UInt8) (rv : Value) (v : Value) (b : List UInt8) (w : World) (hS : IsSha base w p m rv) (h : RB w v b) (hvp : v.ownBlock ≠ some p) (hl : m.length + b.length ≤ 10000000000) :
    Calls Try.prog 70 #[.pointer (some ⟨p, 0, none⟩), v] w fun e w' => e = .returned (.tuple #[]) ∧ (∃ rv', IsSha base w' p (m ++ b) rv') ∧ Below base w w' := by
  obtain ⟨hp, hr, hne, hpos, hown⟩ := hS
  have hn := wq_add m.length b.length
  have HN' : Hid (UInt64.ofNat (m.length + b.length) = UInt64.ofNat (m ++ b).length) := by show _ = _; simp
  have HA : Hid (mixK iv8 (m ++ b) (m.length / 64) = shv m) := mixK_append _ _ _ _ (by omega)
  have HB : Hid (shr m ++ b = (m ++ b).drop (64 * (m.length / 64))) := by show _ = _; rw [List.drop_append_of_le_length (by omega)]; rfl
  generalize UInt64.ofNat m.length = N at *
  generalize UInt64.ofNat (m.length + b.length) = N' at *
  have hpw : p < w.heap.size := lt_of_heap hp
  have c8 : w.cell? ⟨p, 8, none⟩ = some rv := cell_of_row _ _ _ _ _ _ hp
  have c9 : w.cell? ⟨p, 9, none⟩ = some (.int .u64 (wq N)) := cell_of_row _ _ _ _ _ _ hp
  have f8 : w.frozen? ⟨p, 8, none⟩ = false := by simp [World.frozen?, hp]
  have f9 : w.frozen? ⟨p, 9, none⟩ = false := by simp [World.frozen?, hp]
  have hlr : (shr m).length ≤ m.length := by simp [shr]
  have HP := _root_.Go.Lib.hid hp
  have HN := _root_.Go.Lib.hid hne
  have HO := _root_.Go.Lib.hid hown
  have HR1 := _root_.Go.Lib.hid (hr.setCell ⟨p, 9, none⟩ (.int .u64 (wq N')) hne)
  have HV1 := _root_.Go.Lib.hid (h.setCell ⟨p, 9, none⟩ (.int .u64 (wq N')) hvp)
  have hblen : (b.length : Int) ≤ 10000000000 := by omega
  have hvs := h.shape
  have hwb : base ≤ w.heap.size := by omega
  clear hp hr h hne hown hvp
  rcases hvs with ⟨rfl, hbn⟩ | ⟨g, off, cap, rfl, h1, h2, h3, h4⟩
  all_goals first
    | (have hn' : IntKind.u64.wrap (wq N) = wq N' := (by rw [hbn] at hn; simpa using hn)
       have HBN := _root_.Go.Lib.hid hbn
       clear hn hbn)
    | clear h4
  all_goals
    go_enter Try.func70, Try.ntmps70
    go_wp2_with (first
      | (at_builtin; refine wpList_append_bytes rfl (.tmp 20) (.tmp 21) 22 22 rfl 5 Try.underlying22 Try.info5 HR1.out rfl _ rfl _ (RB.src Try.underlying22 HV1.out) (by omega) (by simp; omega) ?_; intro v' w1 hv' hg _; have X1 := _root_.Go.Lib.hid hv'; have X2 := _root_.Go.Lib.hid hg; have P1 : Hid (w1.heap[p]? = some (.cells (shaC (shv m).l rv N') 119 (0, 0))) := hg.heap (by rw [heap_setCell_row HP.out, shaC_num]) HN.out; have c8' : w1.cell? ⟨p, 8, none⟩ = some rv := cell_of_row _ _ _ _ _ _ P1.out; have f8' : w1.frozen? ⟨p, 8, none⟩ = false := (by have := P1.out; simp [World.frozen?, this]); clear hv' hg)
      | (refine wpList_store_val rfl 22 (.tmp 24) (.tmp 22) rfl p 8 v' _ rfl rfl (slice_cells X1.out.rb).1 (slice_cells X1.out.rb).2 c8' f8' (by kernel_rfl) ?_)
      | fail)
    have P2 : Hid ((w1.setCell ⟨p, 8, none⟩ v').heap[p]? = some (.cells (shaC (shv m).l v' N') 119 (0, 0))) := by
      show _ = _; rw [heap_setCell_row P1.out, shaC_rest]
    have hvo : Hid (v'.ownBlock ≠ some p ∧ ∀ k, v'.ownBlock = some k → base ≤ k) := by
      rcases X2.out.own with e | ⟨k, e, hk⟩
      · rw [e]; exact ⟨HN.out, HO.out⟩
      · rw [e]; simp at hk; exact ⟨fun h => by simp at h; omega, fun k' h => by simp at h; omega⟩
    have R2 : Hid (RB (w1.setCell ⟨p, 8, none⟩ v') v' ((m ++ b).drop (64 * (m.length / 64)))) := by
      rw [← HB.out]; exact X1.out.rb.setCell _ _ hvo.out.1
    have B2 : Hid (Below base w (w1.setCell ⟨p, 8, none⟩ v')) :=
      ((((Below.refl _ _).setCell (p := ⟨p, 9, none⟩) hpos _).trans (X2.out.below base (by simp; omega) HO.out)).setCell (p := ⟨p, 8, none⟩) hpos v')
    clear c8 c9 f8 f9 c8' f8'
    go_frame
    go_loopg [] ((m ++ b).length - 64 * (m.length / 64)) (fun k wr => ∃ (j : Nat) (x : Value), k = (m ++ b).length - 64 * j ∧ m.length / 64 ≤ j ∧ 64 * j ≤ (m ++ b).length ∧ wr.heap[p]? = some (.cells (shaC (mixK iv8 (m ++ b) j).l x N') 119 (0, 0)) ∧ RB wr x ((m ++ b).drop (64 * j)) ∧ x.ownBlock ≠ some p ∧ (∀ k, x.ownBlock = some k → base ≤ k) ∧ Below base w wr)
    case atStart =>
      exact ⟨m.length / 64, v', rfl, Nat.le_refl _, by simp; omega, by rw [HA.out]; exact P2.out, R2.out, hvo.out.1, hvo.out.2, B2.out⟩
    case round =>
      obtain ⟨j, x, hk, hj0, hj, hc, hR, hx1, hx2, hBl⟩ := hrel
      have Zc := _root_.Go.Lib.hid hc
      have ZR := _root_.Go.Lib.hid hR
      have Zx1 := _root_.Go.Lib.hid hx1
      have Zx2 := _root_.Go.Lib.hid hx2
      have ZB := _root_.Go.Lib.hid hBl
      have c8 : wr.cell? ⟨p, 8, none⟩ = some x := cell_of_row _ _ _ _ _ _ hc
      have f8 : wr.frozen? ⟨p, 8, none⟩ = false := by simp [World.frozen?, hc]
      have Zk := _root_.Go.Lib.hid hk
      have hlen : ((m ++ b).drop (64 * j)).length = (m ++ b).length - 64 * j := List.length_drop
      have hM := _root_.Go.Lib.hid (mixK_step iv8 (m ++ b) j)
      have hD : Hid (((m ++ b).drop (64 * j)).drop 64 = (m ++ b).drop (64 * (j + 1))) := by show _ = _; rw [List.drop_drop]; congr 1
      have hsh := hR.shape
      clear hc hR hx1 hx2 hBl hk
      by_cases h64 : 64 ≤ (m ++ b).length - 64 * j
      · rcases hsh with ⟨rfl, e⟩ | ⟨g, off, cap, rfl, h1, h2, h3, h4⟩
        · exact absurd hlen (by rw [e]; simp only [List.length_nil]; omega)
        · clear h4
          have HT := _root_.Go.Lib.hid (ZR.out.take 64 (by rw [hlen]; exact h64))
          have HDr := _root_.Go.Lib.hid (ZR.out.drop 64 (by rw [hlen]; exact h64))
          have HDa := _root_.Go.Lib.hid ZR.out.dropAll
          have hgp : Hid (g ≠ p) := fun e => Zx1.out (by rw [e]; rfl)
          have hL : Hid (((m ++ b).drop (64 * j)).length = (m ++ b).length - 64 * j) := hlen
          generalize ((m ++ b).drop (64 * j)).length = L at *
          have hL1 : (64 : Int) ≤ L := by have := hL.out; omega
          have hL2 : 64 ≤ L := by omega
          clear hlen
          have hpr : p < wr.heap.size := lt_of_heap Zc.out
          have hbr : base ≤ wr.heap.size := by omega
          by_cases hcn : cap = 64
          · subst hcn
            obtain rfl : L = 64 := by omega
            go_wp2_with (go_at_call 80; refine (mix_any p (mixK iv8 (m ++ b) j) _ N' _ (((m ++ b).drop (64 * j)).take 64) _ HT.out (by rw [List.length_take, List.length_drop]; omega) Zc.out).mono ?_; rintro e w2 ⟨rfl, hm1, hm2⟩; have M1 := _root_.Go.Lib.hid hm1; have M2 := _root_.Go.Lib.hid hm2; have d8 : w2.cell? ⟨p, 8, none⟩ = some (.slice (some ⟨g, off, none⟩) 64 64) := cell_of_row _ _ _ _ _ _ M1.out; have e8 : w2.frozen? ⟨p, 8, none⟩ = false := (by have := M1.out; simp [World.frozen?, this]); clear hm1 hm2)
            go_roundg ((m ++ b).length - 64 * (j + 1))
            case measure => have := Zk.out; omega
            case rel =>
              have hle : 64 * (j + 1) ≤ (m ++ b).length := by omega
              have he : Hid ((m ++ b).drop (64 * (j + 1)) = []) := by
                show _ = _; apply List.drop_eq_nil_of_le; have := hL.out; omega
              refine ⟨j + 1, .slice (some ⟨g, off, none⟩) 0 0, rfl, by omega, hle, ?_, ?_, ?_, Zx2.out, ?_⟩
              · rw [heap_setCell_row M1.out, shaC_rest, hM.out]
              · rw [he.out]
                exact RB.setCell (Rd.fr HDa.out M2.out (fun k hk => by simp [Value.ownBlock] at hk; rw [← hk]; exact hgp.out)) _ _ (by simp [Value.ownBlock]; exact hgp.out)
              · simp [Value.ownBlock]; exact hgp.out
              · exact (ZB.out.trans (M2.out.below base hbr (fun k hk => by omega))).setCell (p := ⟨p, 8, none⟩) hpos _
          · have hcn' : ¬ (64 = cap) := fun h => hcn h.symm
            go_wp2_with (go_at_call 80; refine (mix_any p (mixK iv8 (m ++ b) j) _ N' _ (((m ++ b).drop (64 * j)).take 64) _ HT.out (by rw [List.length_take, List.length_drop]; omega) Zc.out).mono ?_; rintro e w2 ⟨rfl, hm1, hm2⟩; have M1 := _root_.Go.Lib.hid hm1; have M2 := _root_.Go.Lib.hid hm2; have d8 : w2.cell? ⟨p, 8, none⟩ = some (.slice (some ⟨g, off, none⟩) L cap) := cell_of_row _ _ _ _ _ _ M1.out; have e8 : w2.frozen? ⟨p, 8, none⟩ = false := (by have := M1.out; simp [World.frozen?, this]); clear hm1 hm2)
            go_roundg ((m ++ b).length - 64 * (j + 1))
            case measure => have := Zk.out; omega
            case rel =>
              have hle : 64 * (j + 1) ≤ (m ++ b).length := by have := hL.out; omega
              refine ⟨j + 1, .slice (some ⟨g, off + 64, none⟩) (L - 64) (cap - 64), rfl, by omega, hle, ?_, ?_, ?_, Zx2.out, ?_⟩
              · rw [heap_setCell_row M1.out, shaC_rest, hM.out]
              · rw [← hD.out]
                exact RB.setCell (Rd.fr HDr.out M2.out (fun k hk => by simp [Value.ownBlock] at hk; rw [← hk]; exact hgp.out)) _ _ (by simp [Value.ownBlock]; exact hgp.out)
              · simp [Value.ownBlock]; exact hgp.out
              · exact (ZB.out.trans (M2.out.below base hbr (fun k hk => by omega))).setCell (p := ⟨p, 8, none⟩) hpos _
      · have hbr : base ≤ wr.heap.size := Nat.le_trans hwb ZB.out.size
        have hpr : p < wr.heap.size := lt_of_heap Zc.out
        have hjj : Hid (j = (m ++ b).length / 64) := by show _ = _; omega
        have hll : ((m ++ b).drop (64 * j)).length ≤ 10000000000 := by rw [hlen]; omega
        have HLL := _root_.Go.Lib.hid hll
        have hL3 : (((m ++ b).drop (64 * j)).length : Int) < 64 := by rw [hlen]; omega
        rcases hsh with ⟨rfl, e⟩ | ⟨g, off, cap, rfl, h1, h2, h3, h4⟩
        all_goals first
          | clear e
          | (clear h4
             obtain ⟨L, hL⟩ : ∃ L, L = ((m ++ b).drop (64 * j)).length := ⟨_, rfl⟩
             rw [← hL] at c8 ZR hL3 Zc h1
             have HL := _root_.Go.Lib.hid hL
             clear hL)
        all_goals
          clear hlen hll
          go_wp2_with (first
            | (go_at_call 68; refine (Clone_any base _ ((m ++ b).drop (64 * j)) _ ZR.out HLL.out hbr).mono ?_; rintro e w2 ⟨v2, rfl, hv2, hno, hnew, _⟩; have V2 := _root_.Go.Lib.hid hv2; have VN := _root_.Go.Lib.hid hno; have VW := _root_.Go.Lib.hid hnew; have M1 : Hid (w2.heap[p]? = some (.cells (shaC (mixK iv8 (m ++ b) j).l _ N') 119 (0, 0))) := hno.heap Zc.out id; have d8 : w2.cell? ⟨p, 8, none⟩ = some _ := (hno.cell (p := ⟨p, 8, none⟩) hpr id).trans c8; have e8 : w2.frozen? ⟨p, 8, none⟩ = false := (by have := M1.out; simp [World.frozen?, this]); clear hv2 hno hnew)
            | (refine wpList_store_val rfl 22 (.tmp 53) (.tmp 51) rfl p 8 v2 _ rfl rfl (slice_cells V2.out.rb).1 (slice_cells V2.out.rb).2 d8 e8 (by kernel_rfl) ?_))
          go_end0
          have hv2p : v2.ownBlock ≠ some p := fun e => by have := VW.out p e; omega
          refine ⟨rfl, ⟨v2, ?_, ?_, hv2p, hpos, fun k hk => Nat.le_trans hbr (VW.out k hk)⟩, ?_⟩
          · rw [heap_setCell_row M1.out, shaC_rest, HN'.out, hjj.out]; rfl
          · have := V2.out.setCell ⟨p, 8, none⟩ v2 hv2p
            rw [hjj.out] at this
            exact this
          · exact (ZB.out.trans (VN.out.below base hbr (fun k hk => hk.elim))).setCell (p := ⟨p, 8, none⟩) hpos _
end Go.Proofs.Ytbdkicmdidcdcaa
namespace Go.Proofs.Ytbdkicmdidcdcaa
open Go.RowKit

theorem shaC_cells (v : V8) (r : Value) (n : UInt64) (hr : r.oneCell' = true) : ∀ u ∈ (shaC v.l r n).toList, u.oneCell' = true := by
  intro u hu
  simp only [shaC, List.mem_append, List.mem_cons, List.not_mem_nil, or_false] at hu
  rcases hu with hu | rfl | rfl
  · exact ws_one u hu
  · exact hr
  · rfl

set_option maxRecDepth 100000 in
set_option maxHeartbeats 400000 in
theorem shaCopy_any (base p : Nat) (m : List UInt8) (rv : Value) (w : World) (hS : IsSha base w p m rv) (_hl : m.length ≤ 10000000000) :
    Calls Try.prog 81 #[.pointer (some ⟨p, 0, none⟩)] w fun e w' => ∃ q rv', e = .returned (.pointer (some ⟨q, 0, none⟩)) ∧ IsSha w.heap.size w' q m rv' ∧ No w w' := by
  obtain ⟨hp, hr, hne, hpos, hown⟩ := hS
  have hpw : p < w.heap.size := lt_of_heap hp
  have HP := _root_.Go.Lib.hid hp
  have HR := _root_.Go.Lib.hid hr
  have hlr : (shr m).length ≤ 10000000000 := by simp [shr]; omega
  have HLR := _root_.Go.Lib.hid hlr
  have c8 : w.cell? ⟨p, 8, none⟩ = some rv := cell_of_row _ _ _ _ _ _ hp
  have h1 := _root_.Go.Lib.hid (shaC_cells (shv m) rv (UInt64.ofNat m.length) (slice_cells hr.rb).1)
  clear hp hr hne hown hlr _hl
  obtain ⟨N, hN0⟩ : ∃ N, UInt64.ofNat m.length = N := ⟨_, rfl⟩
  rw [hN0] at HP h1
  have HN0 := _root_.Go.Lib.hid hN0
  clear hN0
  go_enter Try.func81, Try.ntmps81
  go_wp2_with (first
    | (refine wpList_load_row rfl 119 (.tmp 7) rfl p rfl _ _ _ _ HP.out Try.underlying119 rfl (by kernel_rfl) ?_)
    | (refine wpList_store_row' rfl 119 (.tmp 3) (.tmp 8) rfl w.heap.size (shaC (shv m).l rv N) rfl rfl _ _ (heap_alloc_new w _) (by kernel_rfl) (by kernel_rfl) h1.out ?_; intro w1 a1 a2 a3 a4; have A1 := _root_.Go.Lib.hid a1; have A2 := _root_.Go.Lib.hid a2; have A3 := _root_.Go.Lib.hid a3; have A4 := a4; have d8 : w1.cell? ⟨p, 8, none⟩ = some rv := (by rw [World.cell?_of_block (w := w) ((a2 p (by omega)).trans (Below.heap_alloc _ _ _ hpw))]; exact c8); have HR1 := _root_.Go.Lib.hid (Ow.keep HR.out (fun k hk => (a2 k (by have := HR.out.rb.own k hk; omega)).trans (Below.heap_alloc _ _ _ (HR.out.rb.own k hk)))); clear a1 a2 a3 a4 c8)
    | (go_at_call 68; refine (Clone_any w.heap.size _ (shr m) _ (OB.rb HR1.out) HLR.out (by have := A3.out; simp at this; omega)).mono ?_; rintro e w2 ⟨v2, rfl, hv2, hno, hnew, _⟩; have V2 := _root_.Go.Lib.hid hv2; have VN := _root_.Go.Lib.hid hno; have VW := _root_.Go.Lib.hid hnew; have M1 : Hid (w2.heap[w.heap.size]? = some (.cells (shaC (shv m).l rv N) 119 (0, 0))) := hno.heap A1.out id; have e8 : w2.cell? ⟨w.heap.size, 8, none⟩ = some rv := cell_of_row _ _ _ _ _ _ M1.out; have f8 : w2.frozen? ⟨w.heap.size, 8, none⟩ = false := (by have := M1.out; simp [World.frozen?, this]); clear hv2 hno hnew)
    | (refine wpList_store_val rfl 22 (.tmp 14) (.tmp 13) rfl w.heap.size 8 v2 _ rfl rfl (slice_cells V2.out.rb).1 (slice_cells V2.out.rb).2 e8 f8 (by kernel_rfl) ?_))
  go_ret
  have hs1 : w.heap.size + 1 = w1.heap.size := by have := A3.out; simp at this; omega
  have hv2p : v2.ownBlock ≠ some w.heap.size := fun e => by have := VW.out _ e; omega
  have hN : No w w1 := ((Fr.refl (fun _ => False) w).alloc _).trans A4 (fun i hi e => by omega)
  refine ⟨w.heap.size, v2, rfl, ⟨?_, ?_, hv2p, Nat.le_refl _, fun k hk => by have := VW.out k hk; omega⟩, (hN.trans VN.out (fun _ _ a => a)).setCell _ _ (fun h => by simp at h)⟩
  · rw [heap_setCell_row M1.out, shaC_rest, HN0.out]
  · exact V2.out.setCell ⟨w.heap.size, 8, none⟩ v2 hv2p
theorem run_index_arr {P : Program} (ty e : TypeId) (n : Nat) (hu : P.underlying ty = some (.array n e)) (hi : (P.info? e).map (·.size) = some 1) (k : IntKind) (ha : P.underlying e = some (.int k)) (cs : Array Value) (i : Nat) (h : i < n) (v : Value) (hv : cs[i]? = some v) (w : World) :
    (Instr.index ty (.agg cs) (.int .i64 i)).run P w = .ok v w := by
  cases hq : P.info? e with
  | none => simp [hq] at hi
  | some j =>
    have hs : j.size = 1 := by simpa [hq] using hi
    have hagg : (isAgg e).run P w = .ok false w := by
      unfold isAgg
      rw [Sem.run_bind, run_underlying ha w]
      rfl
    simp [Instr.index, asIntOf, run_underlying hu, sizeOf, typeInfo, hq, hs, part, hagg, hv]
    omega
def outC (l : List UInt32) (i : Nat) : List Value := bs (words4 (l.take i)) ++ List.replicate (32 - 4 * i) (.int .u8 0)
theorem outC_set (a b c d e f g h : UInt32) (i : Nat) (hi : i < 8) :
    ((((outC [a, b, c, d, e, f, g, h] i).set (4 * i) (.int .u8 (by8 (([a, b, c, d, e, f, g, h].getD i 0) >>> 24).toUInt8))).set (4 * i + 1) (.int .u8 (by8 (([a, b, c, d, e, f, g, h].getD i 0) >>> 16).toUInt8))).set (4 * i + 2) (.int .u8 (by8 (([a, b, c, d, e, f, g, h].getD i 0) >>> 8).toUInt8))).set (4 * i + 3) (.int .u8 (by8 ([a, b, c, d, e, f, g, h].getD i 0).toUInt8)) = outC [a, b, c, d, e, f, g, h] (i + 1) := by
  match i, hi with
  | 0, _ => rfl
  | 1, _ => rfl
  | 2, _ => rfl
  | 3, _ => rfl
  | 4, _ => rfl
  | 5, _ => rfl
  | 6, _ => rfl
  | 7, _ => rfl
theorem outC_at (a b c d e f g h : UInt32) (i j : Nat) (hi : i < 8) (hj : j < 4) : (outC [a, b, c, d, e, f, g, h] i)[4 * i + j]? = some (.int .u8 0) := by
  match i, hi, j, hj with
  | 0, _, 0, _ => rfl
  | 0, _, 1, _ => rfl
  | 0, _, 2, _ => rfl
  | 0, _, 3, _ => rfl
  | 1, _, 0, _ => rfl
  | 1, _, 1, _ => rfl
  | 1, _, 2, _ => rfl
  | 1, _, 3, _ => rfl
  | 2, _, 0, _ => rfl
  | 2, _, 1, _ => rfl
  | 2, _, 2, _ => rfl
  | 2, _, 3, _ => rfl
  | 3, _, 0, _ => rfl
  | 3, _, 1, _ => rfl
  | 3, _, 2, _ => rfl
  | 3, _, 3, _ => rfl
  | 4, _, 0, _ => rfl
  | 4, _, 1, _ => rfl
  | 4, _, 2, _ => rfl
  | 4, _, 3, _ => rfl
  | 5, _, 0, _ => rfl
  | 5, _, 1, _ => rfl
  | 5, _, 2, _ => rfl
  | 5, _, 3, _ => rfl
  | 6, _, 0, _ => rfl
  | 6, _, 1, _ => rfl
  | 6, _, 2, _ => rfl
  | 6, _, 3, _ => rfl
  | 7, _, 0, _ => rfl
  | 7, _, 1, _ => rfl
  | 7, _, 2, _ => rfl
  | 7, _, 3, _ => rfl
theorem be64_step (n i : Nat) (h : i < 8) : (be64 n).take (i + 1) = (be64 n).take i ++ [UInt8.ofNat (n / 2 ^ (56 - 8 * i))] := by
  match i, h with
  | 0, _ => rfl
  | 1, _ => rfl
  | 2, _ => rfl
  | 3, _ => rfl
  | 4, _ => rfl
  | 5, _ => rfl
  | 6, _ => rfl
  | 7, _ => simp [be64]
theorem shr_length (m : List UInt8) : (shr m).length = m.length % 64 := by simp [shr]; omega
theorem wq_mul8 (a : Nat) (h : a ≤ 10000000000) : IntKind.u64.wrap (wq (UInt64.ofNat a) * 8) = ((a * 8 : Nat) : Int) := by
  unfold wq; rw [wrap_u64, UInt64.toNat_ofNat']; omega
end Go.Proofs.Ytbdkicmdidcdcaa
namespace Go.Proofs.Ytbdkicmdidcdcaa
open Go.RowKit

theorem IsSha.no {base p : Nat} {w w' : World} {m : List UInt8} {rv : Value} (h : IsSha base w p m rv) (hf : No w w') : IsSha base w' p m rv :=
  ⟨hf.heap h.cells id, h.rest.no hf, h.ne, h.pos, h.own⟩

def padL (k : Nat) : List UInt8 := 128 :: List.replicate k 0
theorem shz_spec (n k : Nat) (hk : k ≤ shz n) : ((n % 64 + (1 + k)) % 64 = 56) ↔ k = shz n := by unfold shz at *; omega

set_option maxRecDepth 100000 in
set_option maxHeartbeats 1000000 in
theorem shaSumM_any (base p : Nat) (m : List UInt8) (rv : Value) (w : World) (hS : IsSha base w p m rv) (hl : m.length ≤ 1000000000) :
    Calls Try.prog 71 #[.pointer (some ⟨p, 0, none⟩)] w fun e w' => e = .returned (.agg (bs (sha m)).toArray) ∧ No w w' := by
  have HS := _root_.Go.Lib.hid hS
  clear hS
  have h8 := wq_mul8 m.length (by omega)
  have hN8 : (m.length * 8 : Nat) ≤ 80000000000 := by omega
  obtain ⟨n8, hn8⟩ : ∃ n8, m.length * 8 = n8 := ⟨_, rfl⟩
  rw [hn8] at h8 hN8
  have H8 := _root_.Go.Lib.hid hn8
  clear hn8
  have hr64 := shr_length m
  have HR64 := _root_.Go.Lib.hid hr64
  clear hr64
  go_enter Try.func71, Try.ntmps71
  go_wp2_with fail
  refine (shaCopy_any base p m rv _ (HS.out.no (((Fr.refl _ w).alloc _).alloc _)) (by omega)).mono ?_
  rintro e w1 ⟨q, rv1, rfl, hS1, hno1⟩
  have S1 : Hid (IsSha (w.heap.size + 2) w1 q m rv1) := by show IsSha _ _ _ _ _; simpa using hS1
  have N0 : Hid (No w w1) := (((Fr.refl _ w).alloc _).alloc _).trans hno1 (fun _ _ a => a)
  have A0 : Hid (w1.heap[w.heap.size]? = some (.cells (List.replicate 32 (.int .u8 0)).toArray 26 (0, 0))) := hno1.heap (heap_prev w _ _) id
  have A1 : Hid (w1.heap[w.heap.size + 1]? = some (.cells (List.replicate 32 (.int .u8 0)).toArray 26 (0, 0))) := hno1.heap (heap_last2 w _ _) id
  obtain ⟨N, hN0⟩ : ∃ N, UInt64.ofNat m.length = N := ⟨_, rfl⟩
  have hc1 := hS1.cells
  rw [hN0] at h8 hc1
  have C1 := _root_.Go.Lib.hid hc1
  have c9 : w1.cell? ⟨q, 9, none⟩ = some (.int .u64 (wq N)) := cell_of_row _ _ _ _ _ _ hc1
  have c8 : w1.cell? ⟨q, 8, none⟩ = some rv1 := cell_of_row _ _ _ _ _ _ hc1
  have HN0 := _root_.Go.Lib.hid hN0
  have R1 := _root_.Go.Lib.hid hS1.rest.rb
  have hqw : q < w1.heap.size := lt_of_heap hS1.cells
  have hqb := hS1.pos
  have hs1 : w.heap.size + 2 ≤ w1.heap.size := by have := hno1.size; simp at this; omega
  simp at hqb
  clear hS1 hno1 hN0 hc1
  have hrl : (shr m).length < 64 := by rw [HR64.out]; omega
  obtain ⟨r, hr0⟩ : ∃ r, (shr m).length = r := ⟨_, rfl⟩
  have R1' : Hid (Rd 1 w1 rv1 r (bs (shr m))) := by have := R1.out; unfold RB at this; rw [hr0] at this; exact this
  have hrm : Hid (m.length % 64 = r) := by show _ = _; rw [← hr0, HR64.out]
  rw [hr0] at hrl
  clear hr0 R1 HR64
  have hrI : (r : Int) < 64 := by omega
  go_wp2_with fail
  go_loopg [6] (shz m.length) (fun g v wr => ∃ k, g = shz m.length - k ∧ k ≤ shz m.length ∧ OB w1.heap.size wr v (padL k) ∧ Newer w1 v ∧ No w1 wr)
  case atStart =>
    exact ⟨0, by omega, by omega, OB.one _ _ _ _ 128 rfl, fun k hk => by simp [Value.ownBlock] at hk; omega, (Fr.refl _ _).alloc _⟩
  case round =>
    obtain ⟨k, hg, hk, hO, hW, hn⟩ := hrel
    have hzl : shz m.length < 64 := by unfold shz; omega
    have hspec := shz_spec m.length k hk
    have c8' : wr.cell? ⟨q, 8, none⟩ = some rv1 := (hn.cell (p := ⟨q, 8, none⟩) hqw id).trans c8
    have XR := _root_.Go.Lib.hid (R1'.out.no hn)
    have XL : Hid (Rd 1 wr u6 (1 + k) (bs (padL k))) := by show Rd _ _ _ _ _; have := hO.rb; unfold RB at this; simpa [padL, Nat.add_comm] using this
    have XO := _root_.Go.Lib.hid hO
    have XW := _root_.Go.Lib.hid hW
    have XN := _root_.Go.Lib.hid hn
    have Xg := _root_.Go.Lib.hid hg
    rw [hrm.out] at hspec
    clear hO hW hn hg
    by_cases hkz : k = shz m.length
    · have hc1 : ((r : Int) + (1 + (k : Int))) % 64 = 56 := by have := hspec.2 hkz; omega
      have HE := _root_.Go.Lib.hid hkz
      clear hspec hkz
      go_wp2_with (first
        | (refine wpList_len rfl (.tmp 24) 22 5 rfl Try.underlying22 rv1 1 _ _ XR.out rfl ?_)
        | (refine wpList_len rfl (.tmp 26) 22 5 rfl Try.underlying22 u6 1 _ _ XL.out rfl ?_)
        | fail)
      clear hc1
      have XO2 : Hid (OB w1.heap.size wr u6 (padL (shz m.length))) := by rw [← HE.out]; exact XO.out
      go_loopw [6, 34] (fun v x wr => ∃ i : Nat, i ≤ 8 ∧ x = .int .i64 i ∧ OB w1.heap.size wr v (padL (shz m.length) ++ (be64 n8).take i) ∧ Newer w1 v ∧ No w1 wr) (fun _ x _ => 8 - (intOf x).toNat)
      case atStart => exact ⟨0, by omega, rfl, by simpa using XO2.out, XW.out, XN.out⟩
      case round =>
        obtain ⟨i, hi, rfl, hO, hW, hn⟩ := hrel
        have YO := _root_.Go.Lib.hid hO
        have YW := _root_.Go.Lib.hid hW
        have YN := _root_.Go.Lib.hid hn
        have hpl : (padL (shz m.length) ++ (be64 n8).take i).length ≤ 100 := by simp [padL]; omega
        have HPL := _root_.Go.Lib.hid hpl
        clear hO hW hn hpl
        by_cases hi8 : i < 8
        · have HB := _root_.Go.Lib.hid (be64_step n8 i hi8)
          have hi8' : (i : Int) < 8 := by omega
          go_wp2_with (at_builtin; refine wpList_append_byte rfl (.tmp 37) (.tmp 44) 22 rfl 5 Try.underlying22 Try.info5 YO.out rfl _ _ rfl (UInt8.ofNat (n8 / 2 ^ (56 - 8 * i))) ?c1 (by have := HPL.out; omega) YN.out.size ?c2)
          case c1 => unfold by8; rw [UInt8.toNat_ofNat']; simp
          case c2 =>
            intro v' w2 hv' hg'
            have hf := Gw.fresh YN.out YW.out hg'
            have V2 := _root_.Go.Lib.hid hv'
            have F2 := _root_.Go.Lib.hid hf
            clear hv' hg' hf
            go_wp2
            go_roundw
            case rel =>
              refine ⟨i + 1, by omega, by go_num, ?_, F2.out.2, F2.out.1⟩
              rw [HB.out]; exact V2.out
            case measure => simp [intOf]; omega
        · obtain rfl : i = 8 := by omega
          have hbe : (be64 n8).take 8 = be64 n8 := rfl
          have HM : Hid (shp m = padL (shz m.length) ++ be64 n8) := by show _ = _; rw [← H8.out]; rfl
          rw [hbe, ← HM.out] at YO
          clear hbe HPL
          have hvq : Hid (u6.ownBlock ≠ some q) := fun e => by have := YW.out q e; omega
          have hmp : (m ++ shp m).length ≤ 2000000000 := by simp [shp, be64, shz]; omega
          obtain ⟨V, hV⟩ : ∃ V, shv (m ++ shp m) = V := ⟨_, rfl⟩
          have HV : Hid (words4 V.l = sha m) := by show _ = _; rw [← hV]; rfl
          have idx : ∀ i : Nat, i < 8 → ∀ w, (Instr.index 117 (.agg (ws V.l).toArray) (.int .i64 i)).run Try.prog w = .ok (.int .u32 (wd (V.l.getD i 0))) w := fun i hi w =>
            run_index_arr _ 100 8 Try.underlying117 (by kernel_rfl) .u32 Try.underlying100 _ i hi _ (by rw [List.getElem?_toArray]; exact ws_getD (by rw [V8.l_length]; exact hi)) w
          have HI := _root_.Go.Lib.hid idx
          have HVe := _root_.Go.Lib.hid hV
          clear idx hV hmp
          go_wp2_with (first
            | (go_at_call 70; refine (Write_any _ q m rv1 _ (shp m) _ (S1.out.no YN.out) YO.out.rb hvq.out (by simp [shp, be64, shz]; omega)).mono ?_; rintro e w2 ⟨rfl, ⟨rv2, hS2⟩, hB2⟩; have C2 : Hid (w2.heap[q]? = some (.cells (shaC V.l rv2 (UInt64.ofNat (m ++ shp m).length)) 119 (0, 0))) := (by have := hS2.cells; rw [HVe.out] at this; exact this); have B2 := _root_.Go.Lib.hid hB2; clear hS2 hB2)
            | (refine wpList_load_sub rfl 117 (.tmp 52) rfl q 0 rfl _ _ _ _ C2.out Try.underlying117 rfl 8 (by kernel_rfl) (ws V.l) rfl rfl ?_)
            | fail)
          have D0 : Hid (w2.heap[w.heap.size]? = some (.cells (List.replicate 32 (.int .u8 0)).toArray 26 (0, 0))) := (B2.out.block _ (by omega)).trans (YN.out.heap A0.out id)
          have D1 : Hid (w2.heap[w.heap.size + 1]? = some (.cells (outC V.l 0).toArray 26 (0, 0))) := (B2.out.block _ (by omega)).trans (YN.out.heap A1.out id)
          have D2 : Hid (No w w2) := (N0.out.trans YN.out (fun _ _ a => a)).trans (Fr.of_below B2.out) (fun j hj h => by omega)
          clear B2 C2 YN YO YW XN XO XO2 XW XL XR hvq
          go_loopw [54] (fun x wr => ∃ i : Nat, i ≤ 8 ∧ x = .int .i64 i ∧ No w wr ∧ wr.heap[w.heap.size]? = some (.cells (List.replicate 32 (.int .u8 0)).toArray 26 (0, 0)) ∧ wr.heap[w.heap.size + 1]? = some (.cells (outC V.l i).toArray 26 (0, 0))) (fun x _ => 8 - (intOf x).toNat)
          case atStart => exact ⟨0, by omega, rfl, D2.out, D0.out, D1.out⟩
          case round =>
            obtain ⟨i, hi, rfl, hno, h0, h1⟩ := hrel
            have E0 := _root_.Go.Lib.hid h0
            have E1 := _root_.Go.Lib.hid h1
            have EN := _root_.Go.Lib.hid hno
            clear h0 hno
            by_cases hi8 : i < 8
            · have hix := HI.out i hi8
              have d0 : wr.cell? ⟨w.heap.size + 1, 4 * i, none⟩ = some (.int .u8 0) := by rw [cell_of_row _ _ _ _ _ _ h1, List.getElem?_toArray]; exact outC_at V.a V.b V.c V.d V.e V.f V.g V.h i 0 hi8 (by omega)
              have d1 : wr.cell? ⟨w.heap.size + 1, 4 * i + 1, none⟩ = some (.int .u8 0) := by rw [cell_of_row _ _ _ _ _ _ h1, List.getElem?_toArray]; exact outC_at V.a V.b V.c V.d V.e V.f V.g V.h i 1 hi8 (by omega)
              have d2 : wr.cell? ⟨w.heap.size + 1, 4 * i + 2, none⟩ = some (.int .u8 0) := by rw [cell_of_row _ _ _ _ _ _ h1, List.getElem?_toArray]; exact outC_at V.a V.b V.c V.d V.e V.f V.g V.h i 2 hi8 (by omega)
              have d3 : wr.cell? ⟨w.heap.size + 1, 4 * i + 3, none⟩ = some (.int .u8 0) := by rw [cell_of_row _ _ _ _ _ _ h1, List.getElem?_toArray]; exact outC_at V.a V.b V.c V.d V.e V.f V.g V.h i 3 hi8 (by omega)
              have z0 : wr.frozen? ⟨w.heap.size + 1, 4 * i, none⟩ = false := by simp [World.frozen?, h1]
              have z1 : wr.frozen? ⟨w.heap.size + 1, 4 * i + 1, none⟩ = false := by simp [World.frozen?, h1]
              have z2 : wr.frozen? ⟨w.heap.size + 1, 4 * i + 2, none⟩ = false := by simp [World.frozen?, h1]
              have z3 : wr.frozen? ⟨w.heap.size + 1, 4 * i + 3, none⟩ = false := by simp [World.frozen?, h1]
              have HO := _root_.Go.Lib.hid (outC_set V.a V.b V.c V.d V.e V.f V.g V.h i hi8)
              have HL : Hid ([V.a, V.b, V.c, V.d, V.e, V.f, V.g, V.h] = V.l) := rfl
              rw [HL.out] at HO
              generalize V.l.getD i 0 = x at *
              clear h1
              go_wp2
              go_roundw
              case rel =>
                refine ⟨i + 1, by omega, by go_num, ?_, ?_, ?_⟩
                · exact (((EN.out.setCell _ _ (fun h => by simp at h; omega)).setCell _ _ (fun h => by simp at h; omega)).setCell _ _ (fun h => by simp at h; omega)).setCell _ _ (fun h => by simp at h; omega)
                · exact heap_setCell_ne (heap_setCell_ne (heap_setCell_ne (heap_setCell_ne E0.out _ (by simp)) _ (by simp)) _ (by simp)) _ (by simp)
                · rw [heap_setCell_row (heap_setCell_row (heap_setCell_row (heap_setCell_row E1.out _ _) _ _) _ _) _ _]
                  simp only [List.setIfInBounds_toArray]
                  exact congrArg (fun l : List Value => some (Obj.cells l.toArray 26 (0, 0))) HO.out
              case measure => simp [intOf]; omega
            · obtain rfl : i = 8 := by omega
              have hout : Hid (outC V.l 8 = bs (sha m)) := by show _ = _; rw [← HV.out]; simp [outC, V8.l]
              have hsz : Hid ((outC V.l 8).toArray.size = 32) := by show _ = _; rw [hout.out]; simp [bs_length, sha_length]
              clear h1
              go_wp2_with (first
                | (refine wpList_load_row rfl 26 (.tmp 3) rfl _ rfl _ _ _ _ E1.out Try.underlying26 rfl (by rw [hsz.out]; kernel_rfl) ?_)
                | (refine wpList_store_row' rfl 26 (.tmp 2) (.tmp 85) rfl _ _ rfl rfl _ _ E0.out (by rw [hsz.out]; kernel_rfl) (by rw [hsz.out]; rfl) (by rw [hout.out]; simpa using bs_one) ?_; intro w3 a1 a2 a3 a4; have F1 := _root_.Go.Lib.hid a1; have F4 := _root_.Go.Lib.hid a4; clear a1 a2 a3 a4))
              refine bodyPost_cell rfl _ _ _ _ _ rfl F1.out Try.underlying26 rfl (by rw [hsz.out]; kernel_rfl) rfl ⟨by rw [hout.out], EN.out.trans F4.out (fun j hj h => by omega)⟩
    · have hc1 : ¬ ((r : Int) + (1 + (k : Int))) % 64 = 56 := fun h => hkz (hspec.1 (by omega))
      have hkl : k < shz m.length := by omega
      clear hspec hkz
      go_wp2_with (first
        | (refine wpList_len rfl (.tmp 24) 22 5 rfl Try.underlying22 rv1 1 _ _ XR.out rfl ?_)
        | (refine wpList_len rfl (.tmp 26) 22 5 rfl Try.underlying22 u6 1 _ _ XL.out rfl ?_)
        | (at_builtin; refine wpList_append_byte rfl (.tmp 31) (.tmp 32) 22 rfl 5 Try.underlying22 Try.info5 XO.out rfl _ _ rfl 0 rfl (by simp [padL]; omega) XN.out.size ?_; intro v' w2 hv' hg'; have V2 := _root_.Go.Lib.hid hv'; have G2 := _root_.Go.Lib.hid hg'; clear hv' hg')
        | fail)
      go_roundg (shz m.length - (k + 1))
      case measure => have := Xg.out; omega
      case rel =>
        have hf := Gw.fresh XN.out XW.out G2.out
        refine ⟨k + 1, rfl, by omega, ?_, hf.2, hf.1⟩
        have := V2.out
        simpa [padL, List.replicate_succ'] using this
end Go.Proofs.Ytbdkicmdidcdcaa
namespace Go.Proofs.Ytbdkicmdidcdcaa
open Go.RowKit

/-- A slice of slices of bytes that is read. -/
def RBs (w : World) (v : Value) (ls : List (List UInt8)) : Prop :=
  ∃ vs : List Value, Rd 1 w v ls.length vs ∧ vs.length = ls.length ∧ ∀ (j : Nat) (x : Value) (l : List UInt8), vs[j]? = some x → ls[j]? = some l → RB w x l

theorem iv_nil : shv [] = iv8 := rfl
theorem flatten_take_succ (ls : List (List UInt8)) (i : Nat) (h : i < ls.length) : (ls.take (i + 1)).flatten = (ls.take i).flatten ++ ls.getD i [] := by
  rw [List.take_succ_eq_append_getElem h, List.flatten_append]; simp [h]
theorem flatten_take_le (ls : List (List UInt8)) (i : Nat) : (ls.take i).flatten.length ≤ ls.flatten.length := by
  have : ls.flatten = (ls.take i).flatten ++ (ls.drop i).flatten := by rw [← List.flatten_append, List.take_append_drop]
  rw [this]; simp

theorem isSha_new (w : World) (o : Obj) : IsSha (w.heap.size + 1) ((w.alloc o).alloc (.cells (shaC iv8.l (.slice none 0 0) 0) 119)) (w.heap.size + 1) [] (.slice none 0 0) :=
  ⟨heap_last2 w _ _, OB.nil _ _, by simp [Value.ownBlock], Nat.le_refl _, fun k h => by simp [Value.ownBlock] at h⟩

set_option maxRecDepth 100000 in
set_option maxHeartbeats 1000000 in
theorem shaSum_any (v : Value) (ls : List (List UInt8)) (w : World) (h : RBs w v ls) (hl : ls.flatten.length ≤ 900000000) :
    Calls Try.prog 57 #[v] w fun e w' => e = .returned (.agg (bs (sha ls.flatten)).toArray) ∧ No w w' := by
  obtain ⟨vs, hr, hlen, hall⟩ := h
  have HR := _root_.Go.Lib.hid hr
  have HA := _root_.Go.Lib.hid hall
  have HL := _root_.Go.Lib.hid hlen
  have hcell : ∀ g off cap, v = .slice (some ⟨g, off, none⟩) ls.length cap → ∀ j, j < ls.length → w.cell? ⟨g, off + j, none⟩ = some (vs.getD j undef) := by
    intro g off cap e j hj
    subst e
    exact Rd.cellAt hr j _ (by rw [List.getD_eq_getElem?_getD]; simp [hlen, hj])
  have HC := _root_.Go.Lib.hid hcell
  have hsh := Rd.shape hr
  have hflat := _root_.Go.Lib.hid hl
  have HP : Hid (∀ j x, j < ls.length → vs.getD j undef = x → RB w x (ls.getD j [])) := fun j x hj e => hall j x _ (by rw [← e, List.getD_eq_getElem?_getD]; simp [hlen, hj]) (by simp [hj])
  obtain ⟨n, hn⟩ : ∃ n, ls.length = n := ⟨_, rfl⟩
  have HN := _root_.Go.Lib.hid hn
  rw [hn] at hsh HR HC HL HP
  have hn1 : (n : Int) ≤ 9223372036854775807 := by
    rcases hsh with ⟨_, h, _⟩ | ⟨_, _, cap, _, h1, h2, _⟩
    · subst h; decide
    · unfold maxLen at h2; omega
  clear hr hall hlen hcell hl hn
  rcases hsh with ⟨rfl, rfl, rfl⟩ | ⟨g, off, cap, rfl, h1, h2, h3⟩
  all_goals
    have hsz : Hid ((bs (sha ls.flatten)).toArray.size = 32) := by show _ = _; simp [bs_length, sha_length]
    go_enter Try.func57, Try.ntmps57
    go_wp2_with (first
      | (go_at_call 69; refine (shaNew_any _).mono ?_; rintro e w1 ⟨rfl, rfl⟩)
      | fail)
  · have hls : ls = [] := List.eq_nil_of_length_eq_zero HN.out
    subst hls
    have hsz0 : Hid ((bs (sha [])).toArray.size = 32) := hsz.out
    refine wp_loop_rounds 1 ?_
    rw [rounds_succ]
    go_wp2_with (first
      | (go_at_call 71; refine (shaSumM_any (w.heap.size + 1) (w.heap.size + 1) [] _ _ (isSha_new w _) (by simp)).mono ?_; rintro e w3 ⟨rfl, hno3⟩; have G0 : Hid (w3.heap[w.heap.size]? = some (.cells (List.replicate 32 (.int .u8 0)).toArray 26 (0, 0))) := hno3.heap (heap_prev w _ _) id; have G2 := _root_.Go.Lib.hid hno3; clear hno3)
      | (refine wpList_store_row' rfl 26 (.tmp 2) (.tmp 18) rfl _ _ rfl rfl _ _ G0.out (by rw [hsz0.out]; kernel_rfl) (by rw [hsz0.out]; rfl) (by simpa using bs_one) ?_; intro w4 a1 a2 a3 a4; have K1 := _root_.Go.Lib.hid a1; have K4 := _root_.Go.Lib.hid a4; clear a1 a2 a3 a4))
    refine bodyPost_cell rfl _ _ _ _ _ rfl K1.out Try.underlying26 rfl (by rw [hsz0.out]; kernel_rfl) rfl ⟨rfl, ((((Fr.refl _ w).alloc _).alloc _).trans G2.out (fun _ _ a => a)).trans K4.out (fun j hj h => by omega)⟩
  · go_loopw [9] (fun x wr => ∃ (i : Nat) (rv : Value), i ≤ n ∧ x = .int .i64 i ∧ IsSha (w.heap.size + 1) wr (w.heap.size + 1) (ls.take i).flatten rv ∧ wr.heap[w.heap.size]? = some (.cells (List.replicate 32 (.int .u8 0)).toArray 26 (0, 0)) ∧ No w wr) (fun x _ => n - (intOf x).toNat)
    case atStart =>
      exact ⟨0, .slice none 0 0, by omega, rfl, isSha_new w _, heap_prev w _ _, ((Fr.refl _ w).alloc _).alloc _⟩
    case round =>
      obtain ⟨i, rv, hi, rfl, hS, h0, hno⟩ := hrel
      have FS := _root_.Go.Lib.hid hS
      have F0 := _root_.Go.Lib.hid h0
      have FN := _root_.Go.Lib.hid hno
      clear hS h0 hno
      by_cases hin : i < n
      · have hin' : (i : Int) < n := by omega
        have hc : wr.cell? ⟨g, off + i, none⟩ = some (vs.getD i undef) := (FN.out.cell (p := ⟨g, off + i, none⟩) h3 id).trans (HC.out g off cap rfl i hin)
        obtain ⟨x, hx⟩ : ∃ x, vs.getD i undef = x := ⟨_, rfl⟩
        have hb0 := HP.out i x hin hx
        rw [hx] at hc
        have XB := _root_.Go.Lib.hid (hb0.no FN.out)
        have hxo : Hid (x.ownBlock ≠ some (w.heap.size + 1)) := fun e => by have := hb0.own _ e; omega
        have hstep := _root_.Go.Lib.hid (flatten_take_succ ls i (by rw [HN.out]; exact hin))
        have hlb : (ls.take i).flatten.length + (ls.getD i []).length ≤ 900000000 := by
          have := flatten_take_le ls (i + 1); rw [hstep.out] at this; simp only [List.length_append] at this; have := hflat.out; omega
        have HLB := _root_.Go.Lib.hid hlb
        clear hb0 hx hlb
        go_wp2_with (first
          | (go_at_call 70; refine (Write_any _ (w.heap.size + 1) _ rv x (ls.getD i []) _ FS.out XB.out hxo.out (by have := HLB.out; omega)).mono ?_; rintro e w2 ⟨rfl, hS2, hB2⟩; have S2 := _root_.Go.Lib.hid hS2; have B2 := _root_.Go.Lib.hid hB2; clear hS2 hB2))
        go_roundw
        case rel =>
          obtain ⟨rv2, hs⟩ := S2.out
          refine ⟨i + 1, rv2, by omega, by go_num, by rw [hstep.out]; exact hs, (B2.out.block _ (by omega)).trans F0.out, FN.out.trans (Fr.of_below B2.out) (fun j hj h => by omega)⟩
        case measure => simp [intOf]; omega
      · obtain rfl : i = n := by omega
        have hall : Hid (ls.take i = ls) := by show _ = _; rw [← HN.out]; exact List.take_length
        rw [hall.out] at FS
        go_wp2_with (first
          | (go_at_call 71; refine (shaSumM_any (w.heap.size + 1) (w.heap.size + 1) ls.flatten _ _ FS.out (by have := hflat.out; omega)).mono ?_; rintro e w3 ⟨rfl, hno3⟩; have G0 : Hid (w3.heap[w.heap.size]? = some (.cells (List.replicate 32 (.int .u8 0)).toArray 26 (0, 0))) := hno3.heap F0.out id; have G2 := _root_.Go.Lib.hid hno3; clear hno3)
          | (refine wpList_store_row' rfl 26 (.tmp 2) (.tmp 18) rfl _ _ rfl rfl _ _ G0.out (by rw [hsz.out]; kernel_rfl) (by rw [hsz.out]; rfl) (by simpa using bs_one) ?_; intro w4 a1 a2 a3 a4; have K1 := _root_.Go.Lib.hid a1; have K4 := _root_.Go.Lib.hid a4; clear a1 a2 a3 a4))
        refine bodyPost_cell rfl _ _ _ _ _ rfl K1.out Try.underlying26 rfl (by rw [hsz.out]; kernel_rfl) rfl ⟨rfl, (FN.out.trans G2.out (fun _ _ a => a)).trans K4.out (fun j hj h => by omega)⟩
end Go.Proofs.Ytbdkicmdidcdcaa
namespace Go.Proofs.Ytbdkicmdidcdcaa
open Go.RowKit

theorem RB.of_heap {w : World} {g : Nat} {e : TypeId} {fz : Nat × Nat} {l : List UInt8} (n : Nat) (h : w.heap[g]? = some (.cells (bs l).toArray e fz)) (hn : l.length = n) (hm : n ≤ 1000000000) : RB w (.slice (some ⟨g, 0, none⟩) n n) l := by
  subst hn
  exact ⟨by simp [bs_length], bs_one, .inr ⟨g, 0, l.length, _, e, fz, rfl, h, by simp; exact List.take_of_length_le (by simp [bs_length]), Nat.le_refl _, by unfold maxLen; omega⟩⟩
/-- .. to which may be appended (it is full). -/
theorem OB.of_heap {w : World} {g : Nat} {e : TypeId} {fz : Nat × Nat} {l : List UInt8} (base n : Nat) (h : w.heap[g]? = some (.cells (bs l).toArray e fz)) (hn : l.length = n) (hm : n ≤ 1000000000) : OB base w (.slice (some ⟨g, 0, none⟩) n n) l := by
  subst hn
  exact ⟨by simp [bs_length], bs_one, .inr ⟨g, 0, l.length, _, e, fz, rfl, h, by simp; exact List.take_of_length_le (by simp [bs_length]), Nat.le_refl _, by unfold maxLen; omega, .inl rfl⟩⟩

/-- Some bytes over others, from a place on, n at most. -/
def over (cur : List UInt8) (o n : Nat) (l : List UInt8) : List UInt8 := cur.take o ++ l.take n ++ cur.drop (o + min l.length n)
theorem over_length (cur : List UInt8) (o n : Nat) (l : List UInt8) (h : o + n ≤ cur.length) : (over cur o n l).length = cur.length := by simp [over]; omega
theorem bs_take (l : List UInt8) (k : Nat) : bs (l.take k) = (bs l).take k := by simp [bs, List.map_take]
theorem bs_drop (l : List UInt8) (k : Nat) : bs (l.drop k) = (bs l).drop k := by simp [bs, List.map_drop]

theorem run_copy_bytes {P : Program} (w : World) (dT sT ty elem : TypeId) (hu : P.underlying dT = some (.slice elem)) (hs : (P.info? elem).map (·.size) = some 1)
    (g o n cap : Nat) (cur : List UInt8) (t : TypeId) (hg : w.heap[g]? = some (.cells (bs cur).toArray t (0, 0))) (hfit : o + n ≤ cur.length) (v : Value) (l : List UInt8) (hv : RB w v l) :
    ∃ w', (Builtin.copy_ #[dT, sT] ty #[.slice (some ⟨g, o, none⟩) n cap, v]).run P w = .ok (.int .i64 (min l.length n : Nat)) w' ∧ w'.heap[g]? = some (.cells (bs (over cur o n l)).toArray t (0, 0)) ∧
      (∀ k, k ≠ g → w'.heap[k]? = w.heap[k]?) ∧ w'.heap.size = w.heap.size ∧ Fr (fun k => k = g) w w' := by
  rcases hv.shape with ⟨rfl, rfl⟩ | ⟨g', off, cap', rfl, h1, _, _, hc⟩
  · refine ⟨w, ?_, ?_, fun _ _ => rfl, rfl, Fr.refl _ _⟩
    · have := run_copy_nil (P := P) w dT sT ty elem ⟨g, o, none⟩ n cap hu (by rw [hs]; rfl)
      rw [this]; simp [goInt]
    · rw [hg]; congr 4; simp [over]
  · have hl : (bs (l.take n)).length = Nat.min l.length n := by rw [bs_length, List.length_take]; exact Nat.min_comm _ _
    refine ⟨w.setRow g ((bs cur).toArray.toList.take o ++ bs (l.take n) ++ (bs cur).toArray.toList.drop (o + (bs (l.take n)).length)).toArray, ?_, ?_, fun k hk => setRow_other _ _ _ _ hk, by simp, (Fr.refl _ _).setRow g _ (fun _ => rfl)⟩
    · have := run_copy_row (P := P) w dT sT ty elem g o n cap ⟨g', off, none⟩ l.length cap' (bs cur).toArray t (bs (l.take n)) hu hs hg hl (fun j u hj => by
        rw [addr_add]
        rw [bs_get] at hj
        have hjl : j < (l.take n).length := by
          rcases Nat.lt_or_ge j (l.take n).length with h | h
          · exact h
          · rw [List.getElem?_eq_none h] at hj; simp at hj
        rw [List.getElem?_eq_getElem hjl] at hj
        simp at hj
        rw [hc j (by simp at hjl; omega), ← hj]
        congr 2
        rw [List.getD_eq_getElem?_getD, List.getElem?_eq_getElem (by simp at hjl; omega)]
        simp) (by rw [hl]; simp [bs_length]; have : Nat.min l.length n ≤ n := Nat.min_le_right _ _; omega) bs_one
      rw [this, hl]; rfl
    · rw [setRow_heap _ _ _ _ _ _ hg, hl]
      congr 3
      show _ = bs (cur.take o ++ l.take n ++ cur.drop (o + min l.length n))
      rw [bs_append, bs_append, bs_take, bs_take, bs_drop]

section
variable {P : Program} {ops : Array Oper} {rest : List Oper} {o : Oper} {a : Act} {w : World} {Q : Exit → Act → World → Prop}
theorem wpList_copy_bytes (hgd : o.guard = none) (d s : Operand) (dT sT : TypeId) (ho : o.op = .call { callee := .builtin .copy, args := #[d, s], argTypes := #[dT, sT] })
    (elem : TypeId) (hu : P.underlying dT = some (.slice elem)) (hs : (P.info? elem).map (·.size) = some 1)
    (g off n cap : Nat) (hd : a.eval d = .slice (some ⟨g, off, none⟩) n cap) (v : Value) (hv : a.eval s = v) (cur : List UInt8) (t : TypeId) (hg : w.heap[g]? = some (.cells (bs cur).toArray t (0, 0))) (hfit : off + n ≤ cur.length) (l : List UInt8) (hr : RB w v l)
    (hk : ∀ w', w'.heap[g]? = some (.cells (bs (over cur off n l)).toArray t (0, 0)) → (∀ k, k ≠ g → w'.heap[k]? = w.heap[k]?) → w'.heap.size = w.heap.size → Fr (fun k => k = g) w w' → wpList P ops Q rest (a.put o.dst (.int .i64 (min l.length n : Nat))) w') :
    wpList P ops Q (o :: rest) a w := by
  refine wpList_plain hgd fun K hK => ?_
  obtain ⟨w', hrun, h1, h2, h3, h4⟩ := run_copy_bytes (P := P) w dT sT o.type elem hu hs g off n cap cur t hg hfit v l hr
  unfold Oper.wp execOp
  simp only [ho, resolve, invoke, builtin, Sem.run_bind, Sem.run_pure, Result.andThen_ok, List.map_toArray, List.map_cons, List.map_nil, hd, hv, hrun]
  exact hK _ _ (hk w' h1 h2 h3 h4)
theorem step_copy_bytes {K : Act → World → Prop} {E : Prop} (hgd : o.guard = none) (d s : Operand) (dT sT : TypeId) (ho : o.op = .call { callee := .builtin .copy, args := #[d, s], argTypes := #[dT, sT] })
    (elem : TypeId) (hu : P.underlying dT = some (.slice elem)) (hs : (P.info? elem).map (·.size) = some 1)
    (g off n cap : Nat) (hd : a.eval d = .slice (some ⟨g, off, none⟩) n cap) (v : Value) (hv : a.eval s = v) (cur : List UInt8) (t : TypeId) (hg : w.heap[g]? = some (.cells (bs cur).toArray t (0, 0))) (hfit : off + n ≤ cur.length) (l : List UInt8) (hr : RB w v l)
    (hk : ∀ w', w'.heap[g]? = some (.cells (bs (over cur off n l)).toArray t (0, 0)) → (∀ k, k ≠ g → w'.heap[k]? = w.heap[k]?) → w'.heap.size = w.heap.size → Fr (fun k => k = g) w w' → K (a.put o.dst (.int .i64 (min l.length n : Nat))) w') :
    if Region.wanted o (yielded ops a.tmps) = true then Oper.wp P o a w K Q else E := by
  have hw : Region.wanted o (yielded ops a.tmps) = true := by simp [Region.wanted, hgd]
  rw [if_pos hw]
  obtain ⟨w', hrun, h1, h2, h3, h4⟩ := run_copy_bytes (P := P) w dT sT o.type elem hu hs g off n cap cur t hg hfit v l hr
  unfold Oper.wp execOp
  simp only [ho, resolve, invoke, builtin, Sem.run_bind, Sem.run_pure, Result.andThen_ok, List.map_toArray, List.map_cons, List.map_nil, hd, hv, hrun]
  exact hk w' h1 h2 h3 h4
end

theorem there_of_heap {w : World} {g : Nat} {cur : Array Value} {t : TypeId} (n : Nat) (h : w.heap[g]? = some (.cells cur t (0, 0))) (hn : cur.size = n) : w.there g 0 n := fun j hj => by
  rw [cell_of_row _ _ _ _ _ _ h]
  exact ⟨by simp; omega, by simp [World.frozen?, h]⟩
theorem setCells_row {w : World} {g : Nat} {cur : Array Value} {t : TypeId} (h : w.heap[g]? = some (.cells cur t (0, 0))) (cs : List Value) (hn : cur.size = cs.length) (h1 : ∀ v ∈ cs, v.oneCell' = true) : w.setCells g 0 cs = w.setRow g cs.toArray := by
  have ht := there_of_heap cs.length h hn
  have a := run_storeCells_cells (P := Try.prog) g 0 cs 0 w (fun j hj => (ht j hj).1) (fun j hj => (ht j hj).2) h1
  have b := run_storeCells_at Try.prog g 0 t cs 0 cur w h (by simp; omega) h1
  rw [a] at b
  injection b with _ b
  rw [b]
  congr 2
  have : List.drop cs.length cur.toList = [] := List.drop_of_length_le (by simp; omega)
  simp [this]
/-- Behind the store of a whole array. -/
theorem arr_store {w : World} {g : Nat} {cur : Array Value} {t : TypeId} (h : w.heap[g]? = some (.cells cur t (0, 0))) (cs : List Value) (hn : cur.size = cs.length) (h1 : ∀ v ∈ cs, v.oneCell' = true) :
    (w.setCells g 0 cs).heap[g]? = some (.cells cs.toArray t (0, 0)) ∧ (∀ k, k ≠ g → (w.setCells g 0 cs).heap[k]? = w.heap[k]?) ∧ (w.setCells g 0 cs).heap.size = w.heap.size ∧ Fr (fun k => k = g) w (w.setCells g 0 cs) := by
  rw [setCells_row h cs hn h1]
  exact ⟨setRow_heap _ _ _ _ _ _ h, fun k hk => setRow_other _ _ _ _ hk, by simp, (Fr.refl _ _).setRow g _ (fun _ => rfl)⟩
/-- A region that draws its order, reads and makes quiet calls alone. -/
theorem wp_region_still_drew {P : Program} {id : Nat} {Q : Exit → Act → World → Prop} {a : Act} {w : World} {l : List Oper} (hm : P.follows .mixedOrders = true) (hB : Region.lexB .any l.toArray = true)
    (h : wpStill P l.toArray w.drew (fun a' => Q .normal a' w.drew) l a) : (Code.region id l.toArray true).wp P Q a w := wp_region_still_lit hm hB h
theorem RW.made (w : World) (e : TypeId) (l : List UInt32) (n : Nat) (hn : l.length = n) (hm : n ≤ 1000000000) : Rd 1 (w.alloc (.cells (ws l).toArray e)) (.slice (some ⟨w.heap.size, 0, none⟩) n n) n (ws l) := by
  subst hn
  exact ⟨by simp [ws_length], ws_one, .inr ⟨w.heap.size, 0, l.length, _, e, (0, 0), rfl, heap_alloc_new w _, by simp; exact List.take_of_length_le (by simp [ws_length]), Nat.le_refl _, by unfold maxLen; omega⟩⟩
theorem RW.of_heap {w : World} {g : Nat} {e : TypeId} {fz : Nat × Nat} {l : List UInt32} (n : Nat) (h : w.heap[g]? = some (.cells (ws l).toArray e fz)) (hn : l.length = n) (hm : n ≤ 1000000000) : Rd 1 w (.slice (some ⟨g, 0, none⟩) n n) n (ws l) := by
  subst hn
  exact ⟨by simp [ws_length], ws_one, .inr ⟨g, 0, l.length, _, e, fz, rfl, h, by simp; exact List.take_of_length_le (by simp [ws_length]), Nat.le_refl _, by unfold maxLen; omega⟩⟩
theorem drop_getD (l : List UInt8) (a c : Nat) : (l.drop a).getD c 0 = l.getD (a + c) 0 := by simp [List.getD_eq_getElem?_getD, List.getElem?_drop]
theorem take_getD (l : List UInt8) (a c : Nat) (h : c < a) : (l.take a).getD c 0 = l.getD c 0 := by simp [List.getD_eq_getElem?_getD, h]
theorem RBs.no {w w' : World} {v : Value} {ls : List (List UInt8)} (h : RBs w v ls) (hf : No w w') : RBs w' v ls := by
  obtain ⟨vs, h1, h2, h3⟩ := h
  exact ⟨vs, h1.no hf, h2, fun j x l a b => (h3 j x l a b).no hf⟩
theorem RBs.nil (w : World) : RBs w (.slice none 0 0) [] := ⟨[], Rd.nil 1 w, rfl, fun j x l a _ => by simp at a⟩
/-- Slices put side by side. -/
theorem RBs.made (w : World) (e : TypeId) (vs : List Value) (ls : List (List UInt8)) (n : Nat) (hn : ls.length = n) (hv : vs.length = n) (hm : n ≤ 1000000) (h : ∀ (j : Nat) (x : Value) (l : List UInt8), vs[j]? = some x → ls[j]? = some l → RB w x l) :
    RBs (w.alloc (.cells vs.toArray e)) (.slice (some ⟨w.heap.size, 0, none⟩) n n) ls := by
  subst hn
  refine ⟨vs, ⟨by rw [hv]; omega, fun u hu => ?_, .inr ⟨w.heap.size, 0, ls.length, _, e, (0, 0), rfl, heap_alloc_new w _, ?_, Nat.le_refl _, by unfold maxLen; omega⟩⟩, hv, fun j x l a b => (h j x l a b).alloc _⟩
  · obtain ⟨j, hj⟩ := List.mem_iff_getElem?.1 hu
    have hjl : j < ls.length := by rw [← hv]; exact (List.getElem?_eq_some_iff.1 hj).1
    exact (slice_cells (h j u ls[j] hj (List.getElem?_eq_getElem hjl))).1
  · simp only [Nat.mul_one, List.drop_zero]; exact List.take_of_length_le (by omega)
theorem RBs.one (w : World) (e : TypeId) (v : Value) (l : List UInt8) (h : RB w v l) : RBs (w.alloc (.cells #[v] e)) (.slice (some ⟨w.heap.size, 0, none⟩) 1 1) [l] :=
  RBs.made w e [v] [l] 1 rfl rfl (by omega) fun j x y a b => by
    match j with
    | 0 => simp at a b; subst a b; exact h
    | j + 1 => simp at a
theorem RBs.two (w : World) (e : TypeId) (v u : Value) (l m : List UInt8) (h : RB w v l) (k : RB w u m) : RBs (w.alloc (.cells #[v, u] e)) (.slice (some ⟨w.heap.size, 0, none⟩) 2 2) [l, m] :=
  RBs.made w e [v, u] [l, m] 2 rfl rfl (by omega) fun j x y a b => by
    match j with
    | 0 => simp at a b; subst a b; exact h
    | 1 => simp at a b; subst a b; exact k
    | j + 2 => simp at a
theorem RBs.three (w : World) (e : TypeId) (v u t : Value) (l m n : List UInt8) (h : RB w v l) (k : RB w u m) (i : RB w t n) : RBs (w.alloc (.cells #[v, u, t] e)) (.slice (some ⟨w.heap.size, 0, none⟩) 3 3) [l, m, n] :=
  RBs.made w e [v, u, t] [l, m, n] 3 rfl rfl (by omega) fun j x y a b => by
    match j with
    | 0 => simp at a b; subst a b; exact h
    | 1 => simp at a b; subst a b; exact k
    | 2 => simp at a b; subst a b; exact i
    | j + 3 => simp at a
/-- sha.Sum, the sum's bytes under a name. -/
theorem shaSum_is (v : Value) (ls : List (List UInt8)) (m : List UInt8) (w : World) (h : RBs w v ls) (hm : ls.flatten = m) (hl : m.length ≤ 900000000) :
    Calls Try.prog 57 #[v] w fun e w' => e = .returned (.agg (bs (sha m)).toArray) ∧ No w w' := by
  subst hm; exact shaSum_any v ls w h hl
end Go.Proofs.Ytbdkicmdidcdcaa
