/-
  Crash: what it computes.
-/
import Derived.Test.YtgbfbijjbkfglaaDiskH
namespace Go.Proofs.Ytgbfbijjbkfglaa
open Go.RowKit Go.Maps

def keepOf (n : Int) (f : Fl) : Nat := f.lasts + (if 0 ≤ n then (n.toNat % (f.b.length - f.lasts + 1)) else 0)
def crashF (n : Int) (f : Fl) : Option Fl := if 0 < keepOf n f ∨ f.there = true then some ⟨f.b.take (keepOf n f), keepOf n f, true⟩ else none
def crashM (n : Int) (M : List UInt8 → Option Fl) : List UInt8 → Option Fl := fun x => (M x).bind (crashF n)
def upTo (n : Int) (M : List UInt8 → Option Fl) (L : List (List UInt8)) (i : Nat) : List UInt8 → Option Fl := fun x => if x ∈ L.take i then crashM n M x else none
theorem keepOf_le (n : Int) (f : Fl) (h : f.lasts ≤ f.b.length) : keepOf n f ≤ f.b.length := by
  unfold keepOf
  split
  · have := Nat.mod_lt n.toNat (show 0 < f.b.length - f.lasts + 1 by omega); omega
  · omega
theorem upTo_zero (n : Int) (M : List UInt8 → Option Fl) (L : List (List UInt8)) : upTo n M L 0 = fun _ => none := by funext x; simp [upTo]
theorem upTo_succ (n : Int) (M : List UInt8 → Option Fl) (L : List (List UInt8)) (i : Nat) (h : i < L.length) : upTo n M L (i + 1) = setM (upTo n M L i) (L.getD i []) (crashM n M (L.getD i [])) := by
  funext x
  simp only [upTo, setM]
  rw [List.take_succ_eq_append_getElem h, List.getD_eq_getElem?_getD, List.getElem?_eq_getElem h]
  simp only [List.mem_append, List.mem_singleton, Option.getD_some]
  by_cases hx : x = L[i]
  · simp [hx]
  · simp [hx]
theorem upTo_skip (n : Int) (M : List UInt8 → Option Fl) (L : List (List UInt8)) (i : Nat) (h : i < L.length) (hn : crashM n M (L.getD i []) = none) : upTo n M L (i + 1) = upTo n M L i := by
  rw [upTo_succ n M L i h, hn]
  funext x
  simp only [setM]
  split
  · subst_vars; simp only [upTo, hn]; split <;> rfl
  · rfl
theorem upTo_full (n : Int) (M : List UInt8 → Option Fl) (L : List (List UInt8)) (h : ∀ x, x ∈ L ↔ M x ≠ none) : upTo n M L L.length = crashM n M := by
  funext x
  simp only [upTo, List.take_length]
  split
  · rfl
  · rename_i hx
    have : M x = none := Classical.not_not.1 fun hh => hx ((h x).2 hh)
    simp [crashM, this]

theorem RB.take {w : World} {g off n cap : Nat} {l : List UInt8} (h : RB w (.slice (some ⟨g, off, none⟩) n cap) l) (k : Nat) (hk : k ≤ l.length) : RB w (.slice (some ⟨g, off, none⟩) k cap) (l.take k) := by
  obtain ⟨h1, h2, ⟨h3, _⟩ | ⟨g', off', cap', cur, e, fz, hv, b, c, d, d'⟩⟩ := h
  · cases h3
  · obtain ⟨⟨rfl, rfl⟩, rfl, rfl⟩ : (g = g' ∧ off = off') ∧ n = l.length ∧ cap = cap' := by simpa using hv
    have hl : (l.take k).length = k := by rw [List.length_take]; omega
    refine ⟨by rw [bs_length]; omega, bs_one, .inr ⟨g, off, cap, cur, e, fz, by rw [hl], b, ?_, by omega, d'⟩⟩
    rw [hl, show bs (l.take k) = (bs l).take k from by simp [bs, List.map_take], ← c, List.take_take]
    congr 1; omega

section
variable {w w1 w' : World} {ρ : Nat → Role} {db mb n : Nat} {D : DataW Nat} {M : List UInt8 → Option Fl} {c q : Nat}
theorem DKs.more (h : DKs w ρ db mb n D M c q) (q' : Nat) (hq : q ≤ q') : DKs w ρ db mb n D M c q' := ⟨h.hdr, h.mp, h.cell, h.own, by have := h.fit; omega, h.files, h.lt⟩
theorem DKs.no (h : DKs w ρ db mb n D M c q) (hf : No w w1) : DKs w1 ρ db mb n D M c q := h.keep hf.size fun k e => hf.block k (h.lt k e) id
theorem Sd.block {wz : World} (T : DKs wz ρ db mb n D M c q) (name : ByteArray) (hn : name.size ≤ maxLen) (hm : n < maxLen) (x : World) (hx : Sd wz mb name x) (k : Nat) (hk : k < wz.heap.size) (hkm : k ≠ mb) : x.heap[k]? = wz.heap[k]? := by
  rcases hx with hx | ⟨y, b', hy, rfl⟩
  · exact hx.block k hk id
  · have hg := (updW_spec name hn (ownsMap_keep T.own (hy.block mb (T.lt mb (by rw [T.mp]; simp)) id)) hm b').2.2
    exact (hg.block k (Nat.lt_of_lt_of_le hk hy.size) (by simp; exact hkm)).trans (hy.block k hk id)

/-- One file of a crashed disk is laid. -/
theorem crash_step {wa w0 wz wc : World} {i nn dcb mcb : Nat} {ρ' : Nat → Role} {D' : DataW Nat} {M' : List UInt8 → Option Fl} {ad : Option Addr} {sn sc : Nat} (hT : DKs wz ρ' dcb mcb nn D' M' 0 i) (hi : i ≤ 2000000)
    (name : ByteArray) (hn : name.size ≤ maxLen) (l : List UInt8) (k : Nat) (hk : l.length = k) (hl : k ≤ 1048576) (hwz : No wz wc) (hv : OB 0 wc (.slice ad sn sc) l) (hnew : Newer wz (.slice ad sn sc))
    (hwa : No wa w0) (hw0 : No w0 wz) (hfresh : ∀ k, ρ' k ≠ .no → wa.heap.size ≤ k) :
    ∃ ρ'' nn' D'', DKs (updW mcb name wc.heap.size (wc.alloc (.cells #[.slice ad sn sc, .int .i64 k, .bool true] 61))) ρ'' dcb mcb nn' D'' (setM M' name.data.toList (some ⟨l, k, true⟩)) 0 (i + 1) ∧
      No wa (updW mcb name wc.heap.size (wc.alloc (.cells #[.slice ad sn sc, .int .i64 k, .bool true] 61))) ∧ (∀ k, ρ'' k ≠ .no → wa.heap.size ≤ k) ∧
      (∀ j, j < wz.heap.size → j ≠ mcb → (updW mcb name wc.heap.size (wc.alloc (.cells #[.slice ad sn sc, .int .i64 k, .bool true] 61))).heap[j]? = wz.heap[j]?) ∧ wz.heap.size ≤ (updW mcb name wc.heap.size (wc.alloc (.cells #[.slice ad sn sc, .int .i64 k, .bool true] 61))).heap.size := by
  have hY := hwz.alloc (.cells #[.slice ad sn sc, .int .i64 k, .bool true] 61)
  have hfit := hT.fit
  have hU := updW_spec name hn (ownsMap_keep hT.own (hY.block mcb (hT.lt mcb (by rw [hT.mp]; simp)) id)) (by unfold maxLen; omega) wc.heap.size
  obtain ⟨ρ'', hop, hdk⟩ := (hT.more (i + 1) (by omega)).laid name.data.toList ⟨l, k, true⟩ wc.heap.size (.slice ad sn sc) (hY.mono fun _ _ a => a.elim) (.inr hwz.size)
    (fun j hj => ⟨.inr (hnew j hj), by have := (Ow.rd hv).lt j hj; omega⟩) (heap_alloc_new wc _) (hv.alloc _) (by show k ≤ l.length; omega) (by show l.length ≤ _; omega) (by omega) hU.2.1 hU.2.2
  have hz : No wa wz := hwa.trans hw0 fun _ _ a => a
  refine ⟨ρ'', _, _, hdk, hz.trans hop.fr fun j hj e => ?_, fun j e => ?_, fun j hj hn => (hU.2.2.block j (Nat.lt_of_lt_of_le hj hY.size) (by simpa using hn)).trans (hY.block j hj id), Nat.le_trans hY.size hU.2.2.size⟩
  · have := hfresh j e; omega
  · rcases hop.roles j e with e | e
    · exact hfresh j e
    · exact Nat.le_trans hz.size e
end

set_option maxRecDepth 100000 in
set_option maxHeartbeats 4000000 in
theorem DCrash_any (d : Value) (ρ : Nat → Role) (M : List UInt8 → Option Fl) (c q : Nat) (n : Int) (w : World) (h : DK w ρ d M c q) (hc : c + q ≤ 1000000) (hn0 : -9223372036854775808 ≤ n) (hn1 : n ≤ 9223372036854775807) :
    Calls Try.prog 14 #[d, .int .i64 n] w fun e w' => ∃ d' ρ' q', e = .returned d' ∧ DK w' ρ' d' (crashM n M) 0 q' ∧ No w w' ∧ q' ≤ c + q ∧ ∀ k, ρ' k ≠ .no → w.heap.size ≤ k := by
  obtain ⟨db, mb, n0, D, rfl, h⟩ := h
  have h0 : w.cell? ⟨db, 0, none⟩ = some (.map (some mb)) := by rw [cell_of_row _ _ _ _ _ _ h.cell]; rfl
  have HD := _root_.Go.Lib.hid h
  have HC := _root_.Go.Lib.hid hc
  have HN0 := _root_.Go.Lib.hid hn0
  have HN1 := _root_.Go.Lib.hid hn1
  clear h hc h0
  go_enter Try.func14, Try.ntmps14
  go_wp2_with (first
    | (go_at_call 11; refine (DNew_any _).mono ?_; rintro e w1 ⟨dc, ρc, rfl, hD1, hN1, hR1⟩; obtain ⟨dcb, mcb, nn, D0, hdd, hD1⟩ := hD1; subst hdd; have X1 := _root_.Go.Lib.hid hD1; have X2 := _root_.Go.Lib.hid hN1; have X3 := _root_.Go.Lib.hid hR1; clear hD1 hN1 hR1)
    | (go_at_call 26; refine (DNames_any _ ρ M c q _ ⟨db, mb, n0, D, rfl, HD.out.no X2.out⟩ HC.out).mono ?_; rintro e w2 ⟨v, L, rfl, hL, hLl, hN2, hRd, hNw⟩; have Y1 := _root_.Go.Lib.hid hL; have Y2 := _root_.Go.Lib.hid hLl; have Y3 := _root_.Go.Lib.hid hN2; have Y4 := _root_.Go.Lib.hid hRd; have Y5 := _root_.Go.Lib.hid hNw; clear hL hLl hN2 hRd hNw)
    | (refine wpList_len rfl (.tmp 14) 51 9 rfl Try.underlying51 v 1 _ _ Y4.out rfl ?_))
  have HLL : Hid ((L.length : Int) ≤ 1000000) := by show _ ≤ _; have := Y2.out; have := HC.out; omega
  rcases Rd.shape Y4.out with ⟨rfl, hl0, _⟩ | ⟨g, off, cap, rfl, hcap, _, hgl⟩
  · have HL0 := _root_.Go.Lib.hid hl0
    go_loopw [16] (fun x wr => x = .int .i64 0 ∧ wr = w2) (fun _ _ => 0)
    case atStart => exact ⟨rfl, rfl⟩
    case round =>
      obtain ⟨rfl, rfl⟩ := hrel
      go_wp2
      go_ret
      exact ⟨_, ρc, 0, rfl, ⟨dcb, mcb, nn, D0, rfl, by rw [← upTo_full n M L Y1.out.mem, HL0.out, upTo_zero]; exact X1.out.no Y3.out⟩, X2.out.trans Y3.out (fun _ _ a => a), Nat.zero_le _, X3.out⟩
  · have HGL : Hid (g < w2.heap.size) := hgl
    have HGM : Hid (g ≠ mcb) := by show _ ≠ _; have := Y5.out g rfl; have := X1.out.lt mcb (by rw [X1.out.mp]; simp); omega
    clear hcap hgl
    have hll := HLL.out
    go_loopw [16] (fun x wr => ∃ i : Nat, i ≤ L.length ∧ x = .int .i64 i ∧ No w wr ∧ w2.heap.size ≤ wr.heap.size ∧ wr.heap[g]? = w2.heap[g]? ∧ ∃ ρ' nn' D', DKs wr ρ' dcb mcb nn' D' (upTo n M L i) 0 i ∧ ∀ k, ρ' k ≠ .no → w.heap.size ≤ k) (fun x _ => L.length - (intOf x).toNat)
    case atStart => exact ⟨0, by omega, rfl, X2.out.trans Y3.out (fun _ _ a => a), Nat.le_refl _, rfl, ρc, nn, D0, by rw [upTo_zero]; exact X1.out.no Y3.out, X3.out⟩
    case round =>
      obtain ⟨i, hi, rfl, hno, hsz2, hno2, ρ', nn', D', hDc, hfresh⟩ := hrel
      have Z1 := _root_.Go.Lib.hid hno
      have Z2 := _root_.Go.Lib.hid hno2
      have Z3 := _root_.Go.Lib.hid hDc
      have Z4 := _root_.Go.Lib.hid hfresh
      have Z6 := _root_.Go.Lib.hid hsz2
      clear hno hno2 hDc hfresh hsz2
      by_cases hin : i < L.length
      · have hin' : (i : Int) < L.length := by omega
        have cN : wr.cell? ⟨g, off + i, none⟩ = some (.string ⟨(L.getD i []).toArray⟩) := (Rd.cellAt (Rd.keep Y4.out (fun k e => by simp [Value.ownBlock] at e; rw [← e]; exact Z2.out)) i _ (by rw [List.getElem?_map, List.getElem?_eq_getElem hin, List.getD_eq_getElem?_getD, List.getElem?_eq_getElem hin]; rfl))
        have hmem : L.getD i [] ∈ L := by rw [List.getD_eq_getElem?_getD, List.getElem?_eq_getElem hin]; exact List.getElem_mem hin
        have hsh := Y1.out.short _ hmem
        have hMn := (Y1.out.mem _).1 hmem
        have U1 := _root_.Go.Lib.hid (upTo_succ n M L i hin)
        have U2 := _root_.Go.Lib.hid (upTo_skip n M L i hin)
        have U0 : Hid ((⟨(L.getD i []).toArray⟩ : ByteArray).data.toList = L.getD i []) := _root_.Go.Lib.hid (by simp)
        have hbs : (⟨(L.getD i []).toArray⟩ : ByteArray).size ≤ maxLen := by simpa [ByteArray.size] using hsh
        rw [← U0.out] at hMn U1 U2
        generalize (⟨(L.getD i []).toArray⟩ : ByteArray) = name at *
        have HNm := _root_.Go.Lib.hid hbs
        have hdr : DKs wr ρ db mb n0 D M c q := HD.out.no Z1.out
        have g0 : wr.cell? ⟨db, 0, none⟩ = some (.map (some mb)) := by rw [cell_of_row _ _ _ _ _ _ hdr.cell]; rfl
        have gc : wr.cell? ⟨dcb, 0, none⟩ = some (.map (some mcb)) := by rw [cell_of_row _ _ _ _ _ _ Z3.out.cell]; rfl
        rcases look_ptr hdr name hbs with ⟨hM, _⟩ | ⟨f, b, v, hM, hlook, _, hρb, hb, hv, hvr, hl, hb2⟩
        · exact absurd hM hMn
        · obtain ⟨fb, la, th⟩ := f
          simp only at hb hv hl hb2
          have hrun := hlook wr rfl
          have HB := _root_.Go.Lib.hid hb
          have HV := _root_.Go.Lib.hid hv
          have c0 : wr.cell? ⟨b, 0, none⟩ = some v := by rw [cell_of_row _ _ _ _ _ _ hb]; rfl
          have c1 : wr.cell? ⟨b, 1, none⟩ = some (.int .i64 la) := by rw [cell_of_row _ _ _ _ _ _ hb]; rfl
          have c2 : wr.cell? ⟨b, 2, none⟩ = some (.bool th) := by rw [cell_of_row _ _ _ _ _ _ hb]; rfl
          have HBL : Hid (b < wr.heap.size) := lt_of_heap hb
          have HBM : Hid (b ≠ mcb) := by
            show _ ≠ _
            have h1 := HD.out.lt b (by rw [hρb]; simp)
            have h2 := Z4.out mcb (by rw [Z3.out.mp]; simp)
            omega
          have hlo : looseOf (M name.data.toList) = fb.length - la := by rw [hM]; rfl
          have HLC : Hid (Calls Try.prog 25 #[.pointer (some ⟨db, 0, none⟩), .string name] wr fun e w' => e = .returned (.int .i64 ((fb.length - la : Nat) : Int)) ∧ No wr w') :=
            (DLoose_any _ ρ M c q name wr ⟨db, mb, n0, D, rfl, hdr⟩ HNm.out).mono (by rintro e w' ⟨rfl, kk, rfl⟩; rw [hlo]; exact ⟨rfl, (Fr.refl _ _).drewN kk⟩)
          obtain ⟨k, hk⟩ : ∃ k, keepOf n ⟨fb, la, th⟩ = k := ⟨_, rfl⟩
          have hkl : k ≤ fb.length := hk ▸ keepOf_le n ⟨fb, la, th⟩ hl
          have HCR0 : Hid (crashM n M name.data.toList = if 0 < k ∨ th = true then some ⟨fb.take k, k, true⟩ else none) := by show _ = _; simp only [crashM, hM, Option.bind_some, crashF, hk]
          clear hmem hsh hMn hbs hdr hlook hρb hb hv hvr hM hlo
          by_cases hng : 0 ≤ n
          · have hkr : k = la + n.toNat % (fb.length - la + 1) := by rw [← hk]; simp only [keepOf, if_pos hng]
            have hrt : Int.tmod n (((fb.length - la : Nat) : Int) + 1) = ((n.toNat % (fb.length - la + 1) : Nat) : Int) := by
              obtain ⟨m, rfl⟩ := Int.eq_ofNat_of_zero_le hng
              rfl
            have hlz : ((fb.length - la : Nat) : Int) ≤ 1048576 := by omega
            clear hk
            generalize n.toNat % (fb.length - la + 1) = r at *
            generalize hlo2 : fb.length - la = lo at *
            clear hlo2
            by_cases hk0 : 0 < k
            · rcases Rd.shape (Ow.rd HV.out) with ⟨rfl, hv0, _⟩ | ⟨vg, vo, vc, rfl, hvc, _⟩
              · omega
              · have HCR : Hid (crashM n M name.data.toList = some ⟨fb.take k, k, true⟩) := by show _ = _; rw [HCR0.out, if_pos (.inl hk0)]
                have HTL : Hid ((fb.take k).length ≤ 1048576) := by show _ ≤ _; rw [List.length_take]; omega
                have HTK : Hid ((fb.take k).length = k) := by show _ = _; rw [List.length_take]; omega
                have HK2 : Hid (k ≤ 1048576) := by show _ ≤ _; omega
                have hk0' : (0 : Int) < k := by omega
                have hkm : (k : Int) ≤ 1048576 := by omega
                have hkc : (k : Int) ≤ vc := by omega
                have h00 : (0 : Int) ≤ k := by omega
                generalize hvl : fb.length = vl at *
                have HKL : Hid (k ≤ fb.length) := by show _ ≤ _; omega
                have hK : (la : Int) + r = k := by omega
                clear hkr hkl hk0 hvc hb2 hl hn0 hn1
                go_wp2_with (first
                  | (go_at_call 25; refine HLC.out.mono ?_; rintro e wl ⟨rfl, hwl⟩; have HNn := _root_.Go.Lib.hid hwl; have c2l : wl.cell? ⟨b, 2, none⟩ = some (.bool th) := (hwl.cell (p := ⟨b, 2, none⟩) HBL.out id).trans c2; clear hwl))
                have HNx : Hid (wl.heap[b]? = wr.heap[b]?) := HNn.out.block b HBL.out id
                have Z5 : Hid (DKs wl ρ' dcb mcb nn' D' (upTo n M L i) 0 i) := Z3.out.no HNn.out
                have hm : nn' + 1 < maxLen := by have := Z3.out.fit; have := Y2.out; have := HC.out; unfold maxLen; omega
                have hupd : ∀ (b : Nat) (x : World), Sd wl mcb name x → (Instr.mapUpdate 55 (.map (some mcb)) (.string name) (.pointer (some ⟨b, 0, none⟩))).run Try.prog x = .ok () (updW mcb name b x) := fun b x hx => Sd.run Z5.out name HNm.out hm b x hx
                have HS3 : Hid (∀ x : World, Sd wl mcb name x → x.cell? ⟨dcb, 0, none⟩ = some (.map (some mcb)) ∧ x.cell? ⟨b, 0, none⟩ = some (Value.slice (some ⟨vg, vo, none⟩) vl vc) ∧ Sd wl mcb name x) := fun x hx =>
                  ⟨Sd.cell Z5.out name HNm.out (by omega) x hx, by rw [cell_of_row _ _ _ _ _ _ ((Sd.block Z5.out name HNm.out (by omega) x hx b (Nat.lt_of_lt_of_le HBL.out HNn.out.size) HBM.out).trans (HNx.out.trans HB.out))]; rfl, hx⟩
                have HRB : Hid (RB wl (Value.slice (some ⟨vg, vo, none⟩) k vc) (fb.take k)) := RB.no (RB.take (Ow.rd HV.out) k HKL.out) HNn.out
                clear hm
                have hNo : No wl wl := Fr.refl _ _
                go_region_held3 (fun x => x.cell? ⟨dcb, 0, none⟩ = some (.map (some mcb)) ∧ x.cell? ⟨b, 0, none⟩ = some (Value.slice (some ⟨vg, vo, none⟩) vl vc) ∧ Sd wl mcb name x)
                  (first
                    | exact HS3.out _ (.inl hNo.drew)
                    | exact HS3.out _ (.inl (hNo.drew.trans X2 (fun _ _ a => a)))
                    | exact HS3.out _ (.inl ((hNo.drew.trans X2 (fun _ _ a => a)).alloc _))
                    | exact HS3.out _ (.inr ⟨_, _, (hNo.drew.trans X2 (fun _ _ a => a)).alloc _, rfl⟩))
                  (first | (go_at_call 29; refine (BClone_any _ (fb.take k) _ (RB.ra (RB.no HRB.out hNo.drew)) (by have := HTL.out; omega)).mono ?_; rintro e w' ⟨v', rfl, X1, X2, X3, X4⟩; obtain ⟨ad, sn, sc, hvf⟩ := OB.form X1; subst hvf; clear X4))
                have HE := _root_.Go.Lib.hid (crash_step (wa := w) (w0 := wr) (wz := wl) (wc := w') Z5.out (by have := Y2.out; have := HC.out; omega) name HNm.out (fb.take k) k HTK.out HK2.out (hNo.drew.trans X2 (fun _ _ a => a)) X1 (fun j hj => by simpa using X3 j hj) Z1.out HNn.out Z4.out)
                clear X1 X2 X3
                go_wp2
                go_roundw
                case rel =>
                  obtain ⟨ρ2, n2, D2, q1, q2, q3, q4, q5⟩ := HE.out
                  have hgz : g < (wl).heap.size := Nat.lt_of_lt_of_le HGL.out (Nat.le_trans Z6.out HNn.out.size)
                  exact ⟨i + 1, by omega, by go_num, q2, Nat.le_trans Z6.out (Nat.le_trans HNn.out.size q5), (q4 g hgz HGM.out).trans ((HNn.out.block g (Nat.lt_of_lt_of_le HGL.out Z6.out) id).trans Z2.out), ρ2, n2, D2, by rw [U1.out, HCR.out]; exact q1, q3⟩
                case measure => simp [intOf]; omega
            · cases th with
              | true =>
                obtain rfl : k = 0 := by omega
                obtain rfl : la = 0 := by omega
                have HCR : Hid (crashM n M name.data.toList = some ⟨fb.take 0, 0, true⟩) := by show _ = _; rw [HCR0.out, if_pos (.inr rfl)]
                have HTL : Hid ((fb.take 0).length ≤ 1048576) := by show _ ≤ _; simp
                have HTK : Hid ((fb.take 0).length = 0) := by show _ = _; simp
                have HK2 : Hid (0 ≤ 1048576) := by show _ ≤ _; omega
                obtain rfl : r = 0 := by omega
                clear hkr
                rcases Rd.shape (Ow.rd HV.out) with ⟨rfl, hv0, _⟩ | ⟨vg, vo, vc, rfl, hvc, _⟩
                · clear hkl hk0 hb2 hl hn0 hn1
                  go_wp2_with (first
                    | (go_at_call 25; refine HLC.out.mono ?_; rintro e wl ⟨rfl, hwl⟩; have HNn := _root_.Go.Lib.hid hwl; have c2l : wl.cell? ⟨b, 2, none⟩ = some (.bool true) := (hwl.cell (p := ⟨b, 2, none⟩) HBL.out id).trans c2; clear hwl))
                  have HNx : Hid (wl.heap[b]? = wr.heap[b]?) := HNn.out.block b HBL.out id
                  have Z5 : Hid (DKs wl ρ' dcb mcb nn' D' (upTo n M L i) 0 i) := Z3.out.no HNn.out
                  have hm : nn' + 1 < maxLen := by have := Z3.out.fit; have := Y2.out; have := HC.out; unfold maxLen; omega
                  have hupd : ∀ (b : Nat) (x : World), Sd wl mcb name x → (Instr.mapUpdate 55 (.map (some mcb)) (.string name) (.pointer (some ⟨b, 0, none⟩))).run Try.prog x = .ok () (updW mcb name b x) := fun b x hx => Sd.run Z5.out name HNm.out hm b x hx
                  have HS3 : Hid (∀ x : World, Sd wl mcb name x → x.cell? ⟨dcb, 0, none⟩ = some (.map (some mcb)) ∧ x.cell? ⟨b, 0, none⟩ = some (Value.slice none 0 0) ∧ Sd wl mcb name x) := fun x hx =>
                    ⟨Sd.cell Z5.out name HNm.out (by omega) x hx, by rw [cell_of_row _ _ _ _ _ _ ((Sd.block Z5.out name HNm.out (by omega) x hx b (Nat.lt_of_lt_of_le HBL.out HNn.out.size) HBM.out).trans (HNx.out.trans HB.out))]; rfl, hx⟩
                  have HRB : Hid (RB wl (Value.slice none 0 0) (fb.take 0)) := (by rw [List.take_zero]; exact RB.nil _)
                  clear hm
                  have hNo : No wl wl := Fr.refl _ _
                  go_region_held3 (fun x => x.cell? ⟨dcb, 0, none⟩ = some (.map (some mcb)) ∧ x.cell? ⟨b, 0, none⟩ = some (Value.slice none 0 0) ∧ Sd wl mcb name x)
                    (first
                      | exact HS3.out _ (.inl hNo.drew)
                      | exact HS3.out _ (.inl (hNo.drew.trans X2 (fun _ _ a => a)))
                      | exact HS3.out _ (.inl ((hNo.drew.trans X2 (fun _ _ a => a)).alloc _))
                      | exact HS3.out _ (.inr ⟨_, _, (hNo.drew.trans X2 (fun _ _ a => a)).alloc _, rfl⟩))
                    (first | (go_at_call 29; refine (BClone_any _ (fb.take 0) _ (RB.ra (RB.no HRB.out hNo.drew)) (by have := HTL.out; omega)).mono ?_; rintro e w' ⟨v', rfl, X1, X2, X3, X4⟩; obtain ⟨ad, sn, sc, hvf⟩ := OB.form X1; subst hvf; clear X4))
                  have HE := _root_.Go.Lib.hid (crash_step (wa := w) (w0 := wr) (wz := wl) (wc := w') Z5.out (by have := Y2.out; have := HC.out; omega) name HNm.out (fb.take 0) 0 HTK.out HK2.out (hNo.drew.trans X2 (fun _ _ a => a)) X1 (fun j hj => by simpa using X3 j hj) Z1.out HNn.out Z4.out)
                  clear X1 X2 X3
                  rw [show ((0 : Nat) : Int) = 0 from rfl] at HE
                  go_wp2
                  go_roundw
                  case rel =>
                    obtain ⟨ρ2, n2, D2, q1, q2, q3, q4, q5⟩ := HE.out
                    have hgz : g < (wl).heap.size := Nat.lt_of_lt_of_le HGL.out (Nat.le_trans Z6.out HNn.out.size)
                    exact ⟨i + 1, by omega, by go_num, q2, Nat.le_trans Z6.out (Nat.le_trans HNn.out.size q5), (q4 g hgz HGM.out).trans ((HNn.out.block g (Nat.lt_of_lt_of_le HGL.out Z6.out) id).trans Z2.out), ρ2, n2, D2, by rw [U1.out, HCR.out]; exact q1, q3⟩
                  case measure => simp [intOf]; omega
                · generalize hvl : fb.length = vl at *
                  have HKL : Hid (0 ≤ fb.length) := Nat.zero_le _
                  have hkc : (0 : Int) ≤ vc := by omega
                  clear hkl hk0 hb2 hl hn0 hn1
                  go_wp2_with (first
                    | (go_at_call 25; refine HLC.out.mono ?_; rintro e wl ⟨rfl, hwl⟩; have HNn := _root_.Go.Lib.hid hwl; have c2l : wl.cell? ⟨b, 2, none⟩ = some (.bool true) := (hwl.cell (p := ⟨b, 2, none⟩) HBL.out id).trans c2; clear hwl))
                  have HNx : Hid (wl.heap[b]? = wr.heap[b]?) := HNn.out.block b HBL.out id
                  have Z5 : Hid (DKs wl ρ' dcb mcb nn' D' (upTo n M L i) 0 i) := Z3.out.no HNn.out
                  have hm : nn' + 1 < maxLen := by have := Z3.out.fit; have := Y2.out; have := HC.out; unfold maxLen; omega
                  have hupd : ∀ (b : Nat) (x : World), Sd wl mcb name x → (Instr.mapUpdate 55 (.map (some mcb)) (.string name) (.pointer (some ⟨b, 0, none⟩))).run Try.prog x = .ok () (updW mcb name b x) := fun b x hx => Sd.run Z5.out name HNm.out hm b x hx
                  have HS3 : Hid (∀ x : World, Sd wl mcb name x → x.cell? ⟨dcb, 0, none⟩ = some (.map (some mcb)) ∧ x.cell? ⟨b, 0, none⟩ = some (Value.slice (some ⟨vg, vo, none⟩) vl vc) ∧ Sd wl mcb name x) := fun x hx =>
                    ⟨Sd.cell Z5.out name HNm.out (by omega) x hx, by rw [cell_of_row _ _ _ _ _ _ ((Sd.block Z5.out name HNm.out (by omega) x hx b (Nat.lt_of_lt_of_le HBL.out HNn.out.size) HBM.out).trans (HNx.out.trans HB.out))]; rfl, hx⟩
                  have HRB : Hid (RB wl (Value.slice (some ⟨vg, vo, none⟩) 0 vc) (fb.take 0)) := RB.no (RB.take (Ow.rd HV.out) 0 HKL.out) HNn.out
                  clear hm
                  have hNo : No wl wl := Fr.refl _ _
                  go_region_held3 (fun x => x.cell? ⟨dcb, 0, none⟩ = some (.map (some mcb)) ∧ x.cell? ⟨b, 0, none⟩ = some (Value.slice (some ⟨vg, vo, none⟩) vl vc) ∧ Sd wl mcb name x)
                    (first
                      | exact HS3.out _ (.inl hNo.drew)
                      | exact HS3.out _ (.inl (hNo.drew.trans X2 (fun _ _ a => a)))
                      | exact HS3.out _ (.inl ((hNo.drew.trans X2 (fun _ _ a => a)).alloc _))
                      | exact HS3.out _ (.inr ⟨_, _, (hNo.drew.trans X2 (fun _ _ a => a)).alloc _, rfl⟩))
                    (first | (go_at_call 29; refine (BClone_any _ (fb.take 0) _ (RB.ra (RB.no HRB.out hNo.drew)) (by have := HTL.out; omega)).mono ?_; rintro e w' ⟨v', rfl, X1, X2, X3, X4⟩; obtain ⟨ad, sn, sc, hvf⟩ := OB.form X1; subst hvf; clear X4))
                  have HE := _root_.Go.Lib.hid (crash_step (wa := w) (w0 := wr) (wz := wl) (wc := w') Z5.out (by have := Y2.out; have := HC.out; omega) name HNm.out (fb.take 0) 0 HTK.out HK2.out (hNo.drew.trans X2 (fun _ _ a => a)) X1 (fun j hj => by simpa using X3 j hj) Z1.out HNn.out Z4.out)
                  clear X1 X2 X3
                  rw [show ((0 : Nat) : Int) = 0 from rfl] at HE
                  go_wp2
                  go_roundw
                  case rel =>
                    obtain ⟨ρ2, n2, D2, q1, q2, q3, q4, q5⟩ := HE.out
                    have hgz : g < (wl).heap.size := Nat.lt_of_lt_of_le HGL.out (Nat.le_trans Z6.out HNn.out.size)
                    exact ⟨i + 1, by omega, by go_num, q2, Nat.le_trans Z6.out (Nat.le_trans HNn.out.size q5), (q4 g hgz HGM.out).trans ((HNn.out.block g (Nat.lt_of_lt_of_le HGL.out Z6.out) id).trans Z2.out), ρ2, n2, D2, by rw [U1.out, HCR.out]; exact q1, q3⟩
                  case measure => simp [intOf]; omega
              | false =>
                obtain rfl : k = 0 := by omega
                obtain rfl : la = 0 := by omega
                have HCR : Hid (upTo n M L (i + 1) = upTo n M L i) := U2.out (by rw [HCR0.out, if_neg (by simp)])
                obtain rfl : r = 0 := by omega
                clear hkr
                clear hkl hk0 hb2 hl hn0 hn1
                go_wp2_with (first
                  | (go_at_call 25; refine HLC.out.mono ?_; rintro e wl ⟨rfl, hwl⟩; have HNn := _root_.Go.Lib.hid hwl; have c2l : wl.cell? ⟨b, 2, none⟩ = some (.bool false) := (hwl.cell (p := ⟨b, 2, none⟩) HBL.out id).trans c2; clear hwl))
                go_roundw
                case rel => exact ⟨i + 1, by omega, by go_num, Fr.trans Z1.out HNn.out (fun _ _ a => a), Nat.le_trans Z6.out HNn.out.size, (HNn.out.block g (Nat.lt_of_lt_of_le HGL.out Z6.out) id).trans Z2.out, ρ', nn', D', by rw [HCR.out]; exact (Z3.out.no HNn.out).more (i + 1) (by omega), Z4.out⟩
                case measure => simp [intOf]; omega
          · have hkr : k = la := by rw [← hk]; simp only [keepOf, if_neg hng, Nat.add_zero]
            clear hk HLC
            by_cases hk0 : 0 < k
            · rcases Rd.shape (Ow.rd HV.out) with ⟨rfl, hv0, _⟩ | ⟨vg, vo, vc, rfl, hvc, _⟩
              · omega
              · have HCR : Hid (crashM n M name.data.toList = some ⟨fb.take k, k, true⟩) := by show _ = _; rw [HCR0.out, if_pos (.inl hk0)]
                have HTL : Hid ((fb.take k).length ≤ 1048576) := by show _ ≤ _; rw [List.length_take]; omega
                have HTK : Hid ((fb.take k).length = k) := by show _ = _; rw [List.length_take]; omega
                have HK2 : Hid (k ≤ 1048576) := by show _ ≤ _; omega
                have hk0' : (0 : Int) < k := by omega
                have hkm : (k : Int) ≤ 1048576 := by omega
                have hkc : (k : Int) ≤ vc := by omega
                have h00 : (0 : Int) ≤ k := by omega
                generalize hvl : fb.length = vl at *
                have HKL : Hid (k ≤ fb.length) := by show _ ≤ _; omega
                obtain rfl : k = la := by omega
                clear hkl hk0 hvc hb2 hl hn0 hn1
                go_wp2_with fail
                have HNn : Hid (No wr wr) := Fr.refl _ _
                have HNx : Hid (wr.heap[b]? = wr.heap[b]?) := HNn.out.block b HBL.out id
                have Z5 : Hid (DKs wr ρ' dcb mcb nn' D' (upTo n M L i) 0 i) := Z3.out.no HNn.out
                have hm : nn' + 1 < maxLen := by have := Z3.out.fit; have := Y2.out; have := HC.out; unfold maxLen; omega
                have hupd : ∀ (b : Nat) (x : World), Sd wr mcb name x → (Instr.mapUpdate 55 (.map (some mcb)) (.string name) (.pointer (some ⟨b, 0, none⟩))).run Try.prog x = .ok () (updW mcb name b x) := fun b x hx => Sd.run Z5.out name HNm.out hm b x hx
                have HS3 : Hid (∀ x : World, Sd wr mcb name x → x.cell? ⟨dcb, 0, none⟩ = some (.map (some mcb)) ∧ x.cell? ⟨b, 0, none⟩ = some (Value.slice (some ⟨vg, vo, none⟩) vl vc) ∧ Sd wr mcb name x) := fun x hx =>
                  ⟨Sd.cell Z5.out name HNm.out (by omega) x hx, by rw [cell_of_row _ _ _ _ _ _ ((Sd.block Z5.out name HNm.out (by omega) x hx b (Nat.lt_of_lt_of_le HBL.out HNn.out.size) HBM.out).trans (HNx.out.trans HB.out))]; rfl, hx⟩
                have HRB : Hid (RB wr (Value.slice (some ⟨vg, vo, none⟩) k vc) (fb.take k)) := RB.no (RB.take (Ow.rd HV.out) k HKL.out) HNn.out
                clear hm
                have hNo : No wr wr := Fr.refl _ _
                go_region_held3 (fun x => x.cell? ⟨dcb, 0, none⟩ = some (.map (some mcb)) ∧ x.cell? ⟨b, 0, none⟩ = some (Value.slice (some ⟨vg, vo, none⟩) vl vc) ∧ Sd wr mcb name x)
                  (first
                    | exact HS3.out _ (.inl hNo.drew)
                    | exact HS3.out _ (.inl (hNo.drew.trans X2 (fun _ _ a => a)))
                    | exact HS3.out _ (.inl ((hNo.drew.trans X2 (fun _ _ a => a)).alloc _))
                    | exact HS3.out _ (.inr ⟨_, _, (hNo.drew.trans X2 (fun _ _ a => a)).alloc _, rfl⟩))
                  (first | (go_at_call 29; refine (BClone_any _ (fb.take k) _ (RB.ra (RB.no HRB.out hNo.drew)) (by have := HTL.out; omega)).mono ?_; rintro e w' ⟨v', rfl, X1, X2, X3, X4⟩; obtain ⟨ad, sn, sc, hvf⟩ := OB.form X1; subst hvf; clear X4))
                have HE := _root_.Go.Lib.hid (crash_step (wa := w) (w0 := wr) (wz := wr) (wc := w') Z5.out (by have := Y2.out; have := HC.out; omega) name HNm.out (fb.take k) k HTK.out HK2.out (hNo.drew.trans X2 (fun _ _ a => a)) X1 (fun j hj => by simpa using X3 j hj) Z1.out HNn.out Z4.out)
                clear X1 X2 X3
                go_wp2
                go_roundw
                case rel =>
                  obtain ⟨ρ2, n2, D2, q1, q2, q3, q4, q5⟩ := HE.out
                  have hgz : g < (wr).heap.size := Nat.lt_of_lt_of_le HGL.out (Nat.le_trans Z6.out HNn.out.size)
                  exact ⟨i + 1, by omega, by go_num, q2, Nat.le_trans Z6.out (Nat.le_trans HNn.out.size q5), (q4 g hgz HGM.out).trans ((HNn.out.block g (Nat.lt_of_lt_of_le HGL.out Z6.out) id).trans Z2.out), ρ2, n2, D2, by rw [U1.out, HCR.out]; exact q1, q3⟩
                case measure => simp [intOf]; omega
            · cases th with
              | true =>
                obtain rfl : k = 0 := by omega
                obtain rfl : la = 0 := by omega
                have HCR : Hid (crashM n M name.data.toList = some ⟨fb.take 0, 0, true⟩) := by show _ = _; rw [HCR0.out, if_pos (.inr rfl)]
                have HTL : Hid ((fb.take 0).length ≤ 1048576) := by show _ ≤ _; simp
                have HTK : Hid ((fb.take 0).length = 0) := by show _ = _; simp
                have HK2 : Hid (0 ≤ 1048576) := by show _ ≤ _; omega
                rcases Rd.shape (Ow.rd HV.out) with ⟨rfl, hv0, _⟩ | ⟨vg, vo, vc, rfl, hvc, _⟩
                · clear hkl hk0 hb2 hl hn0 hn1
                  go_wp2_with fail
                  have HNn : Hid (No wr wr) := Fr.refl _ _
                  have HNx : Hid (wr.heap[b]? = wr.heap[b]?) := HNn.out.block b HBL.out id
                  have Z5 : Hid (DKs wr ρ' dcb mcb nn' D' (upTo n M L i) 0 i) := Z3.out.no HNn.out
                  have hm : nn' + 1 < maxLen := by have := Z3.out.fit; have := Y2.out; have := HC.out; unfold maxLen; omega
                  have hupd : ∀ (b : Nat) (x : World), Sd wr mcb name x → (Instr.mapUpdate 55 (.map (some mcb)) (.string name) (.pointer (some ⟨b, 0, none⟩))).run Try.prog x = .ok () (updW mcb name b x) := fun b x hx => Sd.run Z5.out name HNm.out hm b x hx
                  have HS3 : Hid (∀ x : World, Sd wr mcb name x → x.cell? ⟨dcb, 0, none⟩ = some (.map (some mcb)) ∧ x.cell? ⟨b, 0, none⟩ = some (Value.slice none 0 0) ∧ Sd wr mcb name x) := fun x hx =>
                    ⟨Sd.cell Z5.out name HNm.out (by omega) x hx, by rw [cell_of_row _ _ _ _ _ _ ((Sd.block Z5.out name HNm.out (by omega) x hx b (Nat.lt_of_lt_of_le HBL.out HNn.out.size) HBM.out).trans (HNx.out.trans HB.out))]; rfl, hx⟩
                  have HRB : Hid (RB wr (Value.slice none 0 0) (fb.take 0)) := (by rw [List.take_zero]; exact RB.nil _)
                  clear hm
                  have hNo : No wr wr := Fr.refl _ _
                  go_region_held3 (fun x => x.cell? ⟨dcb, 0, none⟩ = some (.map (some mcb)) ∧ x.cell? ⟨b, 0, none⟩ = some (Value.slice none 0 0) ∧ Sd wr mcb name x)
                    (first
                      | exact HS3.out _ (.inl hNo.drew)
                      | exact HS3.out _ (.inl (hNo.drew.trans X2 (fun _ _ a => a)))
                      | exact HS3.out _ (.inl ((hNo.drew.trans X2 (fun _ _ a => a)).alloc _))
                      | exact HS3.out _ (.inr ⟨_, _, (hNo.drew.trans X2 (fun _ _ a => a)).alloc _, rfl⟩))
                    (first | (go_at_call 29; refine (BClone_any _ (fb.take 0) _ (RB.ra (RB.no HRB.out hNo.drew)) (by have := HTL.out; omega)).mono ?_; rintro e w' ⟨v', rfl, X1, X2, X3, X4⟩; obtain ⟨ad, sn, sc, hvf⟩ := OB.form X1; subst hvf; clear X4))
                  have HE := _root_.Go.Lib.hid (crash_step (wa := w) (w0 := wr) (wz := wr) (wc := w') Z5.out (by have := Y2.out; have := HC.out; omega) name HNm.out (fb.take 0) 0 HTK.out HK2.out (hNo.drew.trans X2 (fun _ _ a => a)) X1 (fun j hj => by simpa using X3 j hj) Z1.out HNn.out Z4.out)
                  clear X1 X2 X3
                  rw [show ((0 : Nat) : Int) = 0 from rfl] at HE
                  go_wp2
                  go_roundw
                  case rel =>
                    obtain ⟨ρ2, n2, D2, q1, q2, q3, q4, q5⟩ := HE.out
                    have hgz : g < (wr).heap.size := Nat.lt_of_lt_of_le HGL.out (Nat.le_trans Z6.out HNn.out.size)
                    exact ⟨i + 1, by omega, by go_num, q2, Nat.le_trans Z6.out (Nat.le_trans HNn.out.size q5), (q4 g hgz HGM.out).trans ((HNn.out.block g (Nat.lt_of_lt_of_le HGL.out Z6.out) id).trans Z2.out), ρ2, n2, D2, by rw [U1.out, HCR.out]; exact q1, q3⟩
                  case measure => simp [intOf]; omega
                · generalize hvl : fb.length = vl at *
                  have HKL : Hid (0 ≤ fb.length) := Nat.zero_le _
                  have hkc : (0 : Int) ≤ vc := by omega
                  clear hkl hk0 hb2 hl hn0 hn1
                  go_wp2_with fail
                  have HNn : Hid (No wr wr) := Fr.refl _ _
                  have HNx : Hid (wr.heap[b]? = wr.heap[b]?) := HNn.out.block b HBL.out id
                  have Z5 : Hid (DKs wr ρ' dcb mcb nn' D' (upTo n M L i) 0 i) := Z3.out.no HNn.out
                  have hm : nn' + 1 < maxLen := by have := Z3.out.fit; have := Y2.out; have := HC.out; unfold maxLen; omega
                  have hupd : ∀ (b : Nat) (x : World), Sd wr mcb name x → (Instr.mapUpdate 55 (.map (some mcb)) (.string name) (.pointer (some ⟨b, 0, none⟩))).run Try.prog x = .ok () (updW mcb name b x) := fun b x hx => Sd.run Z5.out name HNm.out hm b x hx
                  have HS3 : Hid (∀ x : World, Sd wr mcb name x → x.cell? ⟨dcb, 0, none⟩ = some (.map (some mcb)) ∧ x.cell? ⟨b, 0, none⟩ = some (Value.slice (some ⟨vg, vo, none⟩) vl vc) ∧ Sd wr mcb name x) := fun x hx =>
                    ⟨Sd.cell Z5.out name HNm.out (by omega) x hx, by rw [cell_of_row _ _ _ _ _ _ ((Sd.block Z5.out name HNm.out (by omega) x hx b (Nat.lt_of_lt_of_le HBL.out HNn.out.size) HBM.out).trans (HNx.out.trans HB.out))]; rfl, hx⟩
                  have HRB : Hid (RB wr (Value.slice (some ⟨vg, vo, none⟩) 0 vc) (fb.take 0)) := RB.no (RB.take (Ow.rd HV.out) 0 HKL.out) HNn.out
                  clear hm
                  have hNo : No wr wr := Fr.refl _ _
                  go_region_held3 (fun x => x.cell? ⟨dcb, 0, none⟩ = some (.map (some mcb)) ∧ x.cell? ⟨b, 0, none⟩ = some (Value.slice (some ⟨vg, vo, none⟩) vl vc) ∧ Sd wr mcb name x)
                    (first
                      | exact HS3.out _ (.inl hNo.drew)
                      | exact HS3.out _ (.inl (hNo.drew.trans X2 (fun _ _ a => a)))
                      | exact HS3.out _ (.inl ((hNo.drew.trans X2 (fun _ _ a => a)).alloc _))
                      | exact HS3.out _ (.inr ⟨_, _, (hNo.drew.trans X2 (fun _ _ a => a)).alloc _, rfl⟩))
                    (first | (go_at_call 29; refine (BClone_any _ (fb.take 0) _ (RB.ra (RB.no HRB.out hNo.drew)) (by have := HTL.out; omega)).mono ?_; rintro e w' ⟨v', rfl, X1, X2, X3, X4⟩; obtain ⟨ad, sn, sc, hvf⟩ := OB.form X1; subst hvf; clear X4))
                  have HE := _root_.Go.Lib.hid (crash_step (wa := w) (w0 := wr) (wz := wr) (wc := w') Z5.out (by have := Y2.out; have := HC.out; omega) name HNm.out (fb.take 0) 0 HTK.out HK2.out (hNo.drew.trans X2 (fun _ _ a => a)) X1 (fun j hj => by simpa using X3 j hj) Z1.out HNn.out Z4.out)
                  clear X1 X2 X3
                  rw [show ((0 : Nat) : Int) = 0 from rfl] at HE
                  go_wp2
                  go_roundw
                  case rel =>
                    obtain ⟨ρ2, n2, D2, q1, q2, q3, q4, q5⟩ := HE.out
                    have hgz : g < (wr).heap.size := Nat.lt_of_lt_of_le HGL.out (Nat.le_trans Z6.out HNn.out.size)
                    exact ⟨i + 1, by omega, by go_num, q2, Nat.le_trans Z6.out (Nat.le_trans HNn.out.size q5), (q4 g hgz HGM.out).trans ((HNn.out.block g (Nat.lt_of_lt_of_le HGL.out Z6.out) id).trans Z2.out), ρ2, n2, D2, by rw [U1.out, HCR.out]; exact q1, q3⟩
                  case measure => simp [intOf]; omega
              | false =>
                obtain rfl : k = 0 := by omega
                obtain rfl : la = 0 := by omega
                have HCR : Hid (upTo n M L (i + 1) = upTo n M L i) := U2.out (by rw [HCR0.out, if_neg (by simp)])
                clear hkl hk0 hb2 hl hn0 hn1
                go_wp2_with fail
                have HNn : Hid (No wr wr) := Fr.refl _ _
                go_roundw
                case rel => exact ⟨i + 1, by omega, by go_num, Fr.trans Z1.out HNn.out (fun _ _ a => a), Nat.le_trans Z6.out HNn.out.size, (HNn.out.block g (Nat.lt_of_lt_of_le HGL.out Z6.out) id).trans Z2.out, ρ', nn', D', by rw [HCR.out]; exact (Z3.out.no HNn.out).more (i + 1) (by omega), Z4.out⟩
                case measure => simp [intOf]; omega
      · obtain rfl : i = L.length := by omega
        go_wp2
        go_ret
        exact ⟨_, ρ', L.length, rfl, ⟨dcb, mcb, nn', D', rfl, by rw [← upTo_full n M L Y1.out.mem]; exact Z3.out⟩, Z1.out, Y2.out, Z4.out⟩
end Go.Proofs.Ytgbfbijjbkfglaa
