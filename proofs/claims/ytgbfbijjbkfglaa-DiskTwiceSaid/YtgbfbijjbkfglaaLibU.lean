/-
  Words of 8, 32 and 64 bits as the walk writes them.
-/
import Derived.Test.YtgbfbijjbkfglaaLibA
import Derived.Lib.Hide
import Derived.Deep.QuietTactic
import Derived.BigQuiet
import Derived.StillTailTactics
namespace Go.Proofs.Ytgbfbijjbkfglaa
open Go.RowKit

@[go_sem] theorem u32_add (a b : UInt32) : (wd a + wd b) % (4294967296 : Int) = wd (a + b) := by unfold wd; rw [UInt32.toNat_add]; omega
@[go_sem] theorem u32_xorw (a b : UInt32) : bits .xor .u32 (wd a) (wd b) = wd (a ^^^ b) := by
  unfold wd; rw [u32_xor_nat _ _ a.toNat_lt b.toNat_lt, UInt32.toNat_xor]
@[go_sem] theorem u32_andw (a b : UInt32) : bits .and .u32 (wd a) (wd b) = wd (a &&& b) := by
  unfold wd; rw [u32_and_nat _ _ a.toNat_lt b.toNat_lt, UInt32.toNat_and]
@[go_sem] theorem u32_orw (a b : UInt32) : bits .or .u32 (wd a) (wd b) = wd (a ||| b) := by
  unfold wd; rw [u32_or_nat _ _ a.toNat_lt b.toNat_lt, UInt32.toNat_or]
theorem u32_not_nat (u : Nat) (h : u < 4294967296) : 4294967295 ^^^ u = 4294967295 - u := by
  have h1 := BitVec.not_def (x := BitVec.ofNat 32 u)
  have h2 : (~~~ (BitVec.ofNat 32 u)).toNat = 2 ^ 32 - 1 - u := by rw [BitVec.toNat_not, BitVec.toNat_ofNat, Nat.mod_eq_of_lt (by simpa using h)]
  rw [h1, BitVec.toNat_xor, BitVec.toNat_allOnes, BitVec.toNat_ofNat, Nat.mod_eq_of_lt (by simpa using h)] at h2
  exact h2
@[go_sem] theorem u32_notw (a : UInt32) : bits .xor .u32 IntKind.u32.max (wd a) = wd (~~~ a) := by
  unfold wd
  rw [show IntKind.u32.max = ((4294967295 : Nat) : Int) from rfl, u32_xor_nat _ _ (by omega) a.toNat_lt, u32_not_nat _ a.toNat_lt, UInt32.toNat_not]
  simp [UInt32.size]
@[go_sem] theorem u32_notw2 (a : UInt32) : bits .xor .u32 (if IntKind.u32.signed = true then -1 else IntKind.u32.max) (wd a) = wd (~~~ a) := u32_notw a
theorem u32_shl (a : UInt32) (k : Nat) (hk : k < 32) : ((a.toNat * 2 ^ k % 4294967296 : Nat) : Int) = wd (a <<< UInt32.ofNat k) := by
  unfold wd; rw [UInt32.toNat_shiftLeft, UInt32.toNat_ofNat', Nat.mod_eq_of_lt (a := k) (by omega), Nat.mod_eq_of_lt hk, Nat.shiftLeft_eq]
theorem u32_shr (a : UInt32) (k : Nat) (hk : k < 32) : ((a.toNat / 2 ^ k : Nat) : Int) = wd (a >>> UInt32.ofNat k) := by
  unfold wd; rw [UInt32.toNat_shiftRight, UInt32.toNat_ofNat', Nat.mod_eq_of_lt (a := k) (by omega), Nat.mod_eq_of_lt hk, Nat.shiftRight_eq_div_pow]
@[go_sem] theorem u32_shl24 (a : UInt32) : wd a * (16777216 : Int) % (4294967296 : Int) = wd (a <<< 24) := by rw [show (a <<< 24) = a <<< UInt32.ofNat 24 from rfl, ← u32_shl _ _ (by omega)]; unfold wd; omega
@[go_sem] theorem u32_shl16 (a : UInt32) : wd a * (65536 : Int) % (4294967296 : Int) = wd (a <<< 16) := by rw [show (a <<< 16) = a <<< UInt32.ofNat 16 from rfl, ← u32_shl _ _ (by omega)]; unfold wd; omega
@[go_sem] theorem u32_shl8 (a : UInt32) : wd a * (256 : Int) % (4294967296 : Int) = wd (a <<< 8) := by rw [show (a <<< 8) = a <<< UInt32.ofNat 8 from rfl, ← u32_shl _ _ (by omega)]; unfold wd; omega
@[go_sem] theorem u32_shr24 (a : UInt32) : wd a / (16777216 : Int) = wd (a >>> 24) := by rw [show (a >>> 24) = a >>> UInt32.ofNat 24 from rfl, ← u32_shr _ _ (by omega)]; unfold wd; omega
@[go_sem] theorem u32_shr16 (a : UInt32) : wd a / (65536 : Int) = wd (a >>> 16) := by rw [show (a >>> 16) = a >>> UInt32.ofNat 16 from rfl, ← u32_shr _ _ (by omega)]; unfold wd; omega
@[go_sem] theorem u32_shr8 (a : UInt32) : wd a / (256 : Int) = wd (a >>> 8) := by rw [show (a >>> 8) = a >>> UInt32.ofNat 8 from rfl, ← u32_shr _ _ (by omega)]; unfold wd; omega
@[go_sem] theorem u32_shr3 (a : UInt32) : wd a / (8 : Int) = wd (a >>> 3) := by rw [show (a >>> 3) = a >>> UInt32.ofNat 3 from rfl, ← u32_shr _ _ (by omega)]; unfold wd; omega
@[go_sem] theorem u32_shr10 (a : UInt32) : wd a / (1024 : Int) = wd (a >>> 10) := by rw [show (a >>> 10) = a >>> UInt32.ofNat 10 from rfl, ← u32_shr _ _ (by omega)]; unfold wd; omega
@[go_sem] theorem u8_u32 (a : UInt8) : by8 a % (4294967296 : Int) = wd a.toUInt32 := by unfold wd by8; rw [UInt8.toNat_toUInt32]; have := a.toNat_lt; omega
@[go_sem] theorem u32_u8 (a : UInt32) : wd a % (256 : Int) = by8 a.toUInt8 := by unfold wd by8; rw [UInt32.toNat_toUInt8]; omega
@[go_sem] theorem u8_xorw (a b : UInt8) : bits .xor .u8 (by8 a) (by8 b) = by8 (a ^^^ b) := by
  unfold by8; rw [u8_xor_nat _ _ a.toNat_lt b.toNat_lt, UInt8.toNat_xor]
@[go_sem] theorem u8_orw (a b : UInt8) : bits .or .u8 (by8 a) (by8 b) = by8 (a ||| b) := by
  unfold by8; rw [u8_or_nat _ _ a.toNat_lt b.toNat_lt, UInt8.toNat_or]
@[go_sem] theorem u8_i64 (a : UInt8) : IntKind.i64.wrap (by8 a) = by8 a := by have := by8_lt a; rw [IntWalk.i64_in]; omega
@[go_sem] theorem u8_u64 (a : UInt8) : IntKind.u64.wrap (by8 a) = by8 a := by have := by8_lt a; rw [IntWalk.u64_in]; omega

/-- Four bytes as a word, the highest first. -/
def be32 (a b c d : UInt8) : UInt32 := a.toUInt32 <<< 24 ||| b.toUInt32 <<< 16 ||| c.toUInt32 <<< 8 ||| d.toUInt32
def le32 (a b c d : UInt8) : UInt32 := a.toUInt32 ||| b.toUInt32 <<< 8 ||| c.toUInt32 <<< 16 ||| d.toUInt32 <<< 24
theorem u8_wd (a : UInt8) : by8 a = wd a.toUInt32 := by unfold by8 wd; rw [UInt8.toNat_toUInt32]
theorem be32_walk (a b c d : UInt8) : bits .or .u32 (bits .or .u32 (bits .or .u32 (by8 a * 16777216 % 4294967296) (by8 b * 65536 % 4294967296)) (by8 c * 256 % 4294967296)) (by8 d) = wd (be32 a b c d) := by
  rw [u8_wd a, u8_wd b, u8_wd c, u8_wd d, u32_shl24, u32_shl16, u32_shl8, u32_orw, u32_orw, u32_orw]; rfl
theorem le32_walk (a b c d : UInt8) : bits .or .u32 (bits .or .u32 (bits .or .u32 (by8 a) (by8 b * 256 % 4294967296)) (by8 c * 65536 % 4294967296)) (by8 d * 16777216 % 4294967296) = wd (le32 a b c d) := by
  rw [u8_wd a, u8_wd b, u8_wd c, u8_wd d, u32_shl24, u32_shl16, u32_shl8, u32_orw, u32_orw, u32_orw]; rfl
/-- A word turned to the right. -/
def ror (x : UInt32) (n : Nat) : UInt32 := (x >>> UInt32.ofNat n) ||| (x <<< UInt32.ofNat (32 - n))
def rolI (x : UInt32) (k : Int) : UInt32 := let s := (k % 32).toNat; UInt32.ofNat (x.toNat * 2 ^ s % 4294967296 ||| x.toNat / 2 ^ (32 - s))
theorem rolI_ror (x : UInt32) (k : Int) (n : Nat) (hn : 1 ≤ n) (hn2 : n ≤ 31) (h : (k % 32).toNat = 32 - n) : rolI x k = ror x n := by
  apply UInt32.toNat_inj.1
  unfold rolI ror
  simp only [h]
  have h1 := u32_shl x (32 - n) (by omega)
  have h2 := u32_shr x n (by omega)
  unfold wd at h1 h2
  rw [UInt32.toNat_or, UInt32.toNat_ofNat', Nat.or_comm]
  rw [show 32 - (32 - n) = n from by omega]
  have e1 : (x <<< UInt32.ofNat (32 - n)).toNat = x.toNat * 2 ^ (32 - n) % 4294967296 := by omega
  have e2 : (x >>> UInt32.ofNat n).toNat = x.toNat / 2 ^ n := by omega
  rw [← e1, ← e2]
  have := (x >>> UInt32.ofNat n ||| x <<< UInt32.ofNat (32 - n)).toNat_lt
  rw [UInt32.toNat_or] at this
  exact Nat.mod_eq_of_lt this
theorem rolI_or (x : UInt32) (s : Nat) (hs : s < 32) :
    bits .or .u32 (wd x * 2 ^ s % 4294967296) (wd x / 2 ^ (32 - s)) = wd (rolI x s) := by
  unfold wd
  have e1 : ((x.toNat : Int) * 2 ^ s % 4294967296) = ((x.toNat * 2 ^ s % 4294967296 : Nat) : Int) := by simp
  have e2 : ((x.toNat : Int) / 2 ^ (32 - s)) = ((x.toNat / 2 ^ (32 - s) : Nat) : Int) := by simp
  have hlt : x.toNat / 2 ^ (32 - s) < 4294967296 := Nat.lt_of_le_of_lt (Nat.div_le_self _ _) x.toNat_lt
  rw [e1, e2, u32_or_nat _ _ (by omega) hlt]
  unfold rolI
  have e3 : ((s : Int) % 32).toNat = s := by omega
  simp only [e3]
  rw [UInt32.toNat_ofNat']
  have : x.toNat * 2 ^ s % 4294967296 ||| x.toNat / 2 ^ (32 - s) < 2 ^ 32 := Nat.or_lt_two_pow (by omega) (by omega)
  rw [Nat.mod_eq_of_lt this]
theorem and31 (k : Int) : bits BinOp.and IntKind.u64 (IntKind.u64.wrap k) 31 = (((k % 32).toNat : Nat) : Int) := by
  have e : IntKind.u64.wrap k = (((k % 18446744073709551616).toNat : Nat) : Int) := by
    rw [show IntKind.u64.wrap k = k % 18446744073709551616 from by simp [IntKind.wrap, IntKind.bits, IntKind.signed]]; omega
  rw [e, show (31 : Int) = ((31 : Nat) : Int) from rfl, u64_and_nat _ _ (by omega) (by omega), nat_mask5]
  omega
theorem rolI_mod (x : UInt32) (k : Int) : rolI x ((k % 32).toNat : Nat) = rolI x k := by
  unfold rolI
  have : (((k % 32).toNat : Int) % 32).toNat = (k % 32).toNat := by omega
  simp only [this]

@[go_sem] theorem rol_m7 (x : UInt32) : rolI x (-7) = ror x 7 := rolI_ror x _ _ (by decide) (by decide) (by decide)
@[go_sem] theorem rol_m18 (x : UInt32) : rolI x (-18) = ror x 18 := rolI_ror x _ _ (by decide) (by decide) (by decide)
@[go_sem] theorem rol_m17 (x : UInt32) : rolI x (-17) = ror x 17 := rolI_ror x _ _ (by decide) (by decide) (by decide)
@[go_sem] theorem rol_m19 (x : UInt32) : rolI x (-19) = ror x 19 := rolI_ror x _ _ (by decide) (by decide) (by decide)
@[go_sem] theorem rol_m6 (x : UInt32) : rolI x (-6) = ror x 6 := rolI_ror x _ _ (by decide) (by decide) (by decide)
@[go_sem] theorem rol_m11 (x : UInt32) : rolI x (-11) = ror x 11 := rolI_ror x _ _ (by decide) (by decide) (by decide)
@[go_sem] theorem rol_m25 (x : UInt32) : rolI x (-25) = ror x 25 := rolI_ror x _ _ (by decide) (by decide) (by decide)
@[go_sem] theorem rol_m2 (x : UInt32) : rolI x (-2) = ror x 2 := rolI_ror x _ _ (by decide) (by decide) (by decide)
@[go_sem] theorem rol_m13 (x : UInt32) : rolI x (-13) = ror x 13 := rolI_ror x _ _ (by decide) (by decide) (by decide)
@[go_sem] theorem rol_m22 (x : UInt32) : rolI x (-22) = ror x 22 := rolI_ror x _ _ (by decide) (by decide) (by decide)
@[go_sem] theorem rol_16 (x : UInt32) : rolI x 16 = ror x 16 := rolI_ror x _ _ (by decide) (by decide) (by decide)
@[go_sem] theorem rol_12 (x : UInt32) : rolI x 12 = ror x 20 := rolI_ror x _ _ (by decide) (by decide) (by decide)
@[go_sem] theorem rol_8 (x : UInt32) : rolI x 8 = ror x 24 := rolI_ror x _ _ (by decide) (by decide) (by decide)
@[go_sem] theorem rol_7 (x : UInt32) : rolI x 7 = ror x 25 := rolI_ror x _ _ (by decide) (by decide) (by decide)
theorem ror_ref (x : UInt32) (n : Nat) (hn : 1 ≤ n) (hn2 : n ≤ 31) : bits .or .u32 (wd x / 2 ^ n) (wd x * 2 ^ (32 - n) % 4294967296) = wd (ror x n) := by
  have h1 := u32_shl x (32 - n) (by omega)
  have h2 := u32_shr x n (by omega)
  have e1 : (wd x * 2 ^ (32 - n) % 4294967296) = ((x.toNat * 2 ^ (32 - n) % 4294967296 : Nat) : Int) := by simp [wd]
  have e2 : (wd x / 2 ^ n) = ((x.toNat / 2 ^ n : Nat) : Int) := by simp [wd]
  rw [e1, e2, h1, h2, u32_orw]; rfl

/-- A region that draws its order: reads, and one operation at its end. -/
theorem wp_region_tail {P : Program} {id : Nat} {Q : Exit → Act → World → Prop} {a : Act} {w : World} {l : List Oper} (n : Nat) (hm : P.follows .mixedOrders = true) (hB : Region.lexTailB .any l.toArray n = true)
    (h : wpStill P l.toArray w.drew (fun a' => wpList P l.toArray Q (l.drop n) a' w.drew) (l.take n) a) : (Code.region id l.toArray true).wp P Q a w := wp_region_still_tail n hm hB h

/-- The cells of words. -/
def ws (l : List UInt32) : List Value := l.map fun x => .int .u32 (wd x)
theorem ws_length (l : List UInt32) : (ws l).length = l.length := by simp [ws]
theorem ws_one {l : List UInt32} : ∀ u ∈ ws l, u.oneCell' = true := by
  intro u hu
  obtain ⟨_, _, rfl⟩ := List.mem_map.1 hu
  rfl
theorem ws_get {l : List UInt32} {j : Nat} (h : j < l.length) : (ws l)[j]? = some (.int .u32 (wd l[j])) := by simp [ws, h]
theorem ws_getD {l : List UInt32} {j : Nat} (h : j < l.length) : (ws l)[j]? = some (.int .u32 (wd (l.getD j 0))) := by simp [ws, h]
theorem bs_getD {l : List UInt8} {j : Nat} (h : j < l.length) : (bs l)[j]? = some (.int .u8 (by8 (l.getD j 0))) := by simp [bs, h]
end Go.Proofs.Ytgbfbijjbkfglaa
