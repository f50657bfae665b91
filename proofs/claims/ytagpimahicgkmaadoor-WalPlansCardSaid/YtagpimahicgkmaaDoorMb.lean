/- Numbers of 32 bits: what the program's operations are on them; bits.RotateLeft32. SHA-256 in plain Lean, as the program computes it. Walk: sha.schedule. Walk: sha.Block. Walk: sha.ending, sha.Sum. Walk: sha.Sum. -/
import Derived.Test.YtagpimahicgkmaaDoorMa
import Derived.Test.YtagpimahicgkmaaDoorProg
import Derived.WalkKit
import Derived.Laws.BitsAllLaws
import Derived.Laws.IdiomCopy
import Derived.Deep.MidRow
import Derived.StillTailTactics
import Derived.Lib.Hide
import Derived.Outline
import Derived.WalkSpells
import Derived.Deep.Cut
import Derived.Deep.CutRange
import Derived.Deep.CutBlock
import Derived.Deep.RegionHeld3
import Derived.Deep.QuietTactic
import Derived.BigQuiet
import Derived.Lib.BufferWrite
/-! Numbers of 32 bits: what the program's operations are on them; bits.RotateLeft32. -/
namespace Go.Proofs.YtagpimahicgkmaaDoor
open Go.RowKit

abbrev u32v (x : UInt32) : Value := .int .u32 (x.toNat : Int)
theorem u32_lt (x : UInt32) : x.toNat < 4294967296 := x.toNat_lt
theorem uand (a b : UInt32) : bits .and .u32 (a.toNat : Int) (b.toNat : Int) = ((a &&& b).toNat : Int) := by
  rw [u32_and_nat _ _ (u32_lt a) (u32_lt b), UInt32.toNat_and]
theorem uor (a b : UInt32) : bits .or .u32 (a.toNat : Int) (b.toNat : Int) = ((a ||| b).toNat : Int) := by
  rw [u32_or_nat _ _ (u32_lt a) (u32_lt b), UInt32.toNat_or]
theorem uxor (a b : UInt32) : bits .xor .u32 (a.toNat : Int) (b.toNat : Int) = ((a ^^^ b).toNat : Int) := by
  rw [u32_xor_nat _ _ (u32_lt a) (u32_lt b), UInt32.toNat_xor]
theorem uadd (a b : UInt32) : ((a.toNat : Int) + (b.toNat : Int)) % 4294967296 = ((a + b).toNat : Int) := by
  rw [UInt32.toNat_add]; omega
theorem uadd3 (a b c : UInt32) : ((a.toNat : Int) + (b.toNat : Int) + (c.toNat : Int)) % 4294967296 = ((a + b + c).toNat : Int) := by
  rw [UInt32.toNat_add, UInt32.toNat_add]; omega
theorem uadd4 (a b c d : UInt32) : ((a.toNat : Int) + (b.toNat : Int) + (c.toNat : Int) + (d.toNat : Int)) % 4294967296 = ((a + b + c + d).toNat : Int) := by
  rw [UInt32.toNat_add, UInt32.toNat_add, UInt32.toNat_add]; omega
theorem uadd5 (a b c d e : UInt32) : ((a.toNat : Int) + (b.toNat : Int) + (c.toNat : Int) + (d.toNat : Int) + (e.toNat : Int)) % 4294967296 = ((a + b + c + d + e).toNat : Int) := by
  rw [UInt32.toNat_add, UInt32.toNat_add, UInt32.toNat_add, UInt32.toNat_add]; omega
theorem unot (a : UInt32) : bits .xor .u32 IntKind.u32.max (a.toNat : Int) = ((~~~a).toNat : Int) := by
  have e : IntKind.u32.max = ((4294967295 : UInt32).toNat : Int) := by rfl
  have e2 : (4294967295 : UInt32) ^^^ a = ~~~a := by
    apply UInt32.eq_of_toBitVec_eq
    rw [UInt32.toBitVec_xor, UInt32.toBitVec_not]
    show BitVec.allOnes 32 ^^^ a.toBitVec = _
    rw [BitVec.allOnes_xor]
  rw [e, uxor, e2]
/-- Turned to the right. -/
def rotr (x r : UInt32) : UInt32 := x <<< (32 - r) ||| x >>> r
theorem ushl (x : UInt32) (n : Nat) (h : n < 32) : IntKind.u32.wrap ((x.toNat : Int) * ((2 ^ n : Nat) : Int)) = ((x <<< UInt32.ofNat n).toNat : Int) := by
  have e : (UInt32.ofNat n).toNat = n := by rw [UInt32.toNat_ofNat']; exact Nat.mod_eq_of_lt (by omega)
  rw [IntKind.wrap_u32', UInt32.toNat_shiftLeft, e, Nat.mod_eq_of_lt h, Nat.shiftLeft_eq, ← Int.natCast_mul]
  generalize x.toNat * 2 ^ n = m
  omega
theorem ushr (x : UInt32) (n : Nat) (h : n < 32) : (x.toNat : Int) / ((2 ^ n : Nat) : Int) = ((x >>> UInt32.ofNat n).toNat : Int) := by
  have e : (UInt32.ofNat n).toNat = n := by rw [UInt32.toNat_ofNat']; exact Nat.mod_eq_of_lt (by omega)
  rw [UInt32.toNat_shiftRight, e, Nat.mod_eq_of_lt h, Nat.shiftRight_eq_div_pow, ← Int.natCast_ediv]
theorem rot2 (x : UInt32) (w : World) : Calls Tryd.prog 126 #[u32v x, .int .i64 (-2)] w fun e w' => e = .returned (u32v (rotr x 2)) ∧ w = w' := by
  have hs : bits .and .u64 (IntKind.u64.wrap (-2)) 31 = 30 := by kernel_rfl
  have he : bits .or .u32 ((x.toNat : Int) * 1073741824 % 4294967296) ((x.toNat : Int) / 4) = ((rotr x 2).toNat : Int) := by
    have h1 : (x.toNat : Int) * 1073741824 % 4294967296 = ((x <<< (30 : UInt32)).toNat : Int) := by have := ushl x 30 (by decide); rw [IntKind.wrap_u32'] at this; exact this
    have h2 : (x.toNat : Int) / 4 = ((x >>> (2 : UInt32)).toNat : Int) := ushr x 2 (by decide)
    rw [h1, h2, uor]; rfl
  go_enter Tryd.func126, Tryd.ntmps126
  go_wp2
  go_ret
  exact ⟨rfl, rfl⟩
theorem rot6 (x : UInt32) (w : World) : Calls Tryd.prog 126 #[u32v x, .int .i64 (-6)] w fun e w' => e = .returned (u32v (rotr x 6)) ∧ w = w' := by
  have hs : bits .and .u64 (IntKind.u64.wrap (-6)) 31 = 26 := by kernel_rfl
  have he : bits .or .u32 ((x.toNat : Int) * 67108864 % 4294967296) ((x.toNat : Int) / 64) = ((rotr x 6).toNat : Int) := by
    have h1 : (x.toNat : Int) * 67108864 % 4294967296 = ((x <<< (26 : UInt32)).toNat : Int) := by have := ushl x 26 (by decide); rw [IntKind.wrap_u32'] at this; exact this
    have h2 : (x.toNat : Int) / 64 = ((x >>> (6 : UInt32)).toNat : Int) := ushr x 6 (by decide)
    rw [h1, h2, uor]; rfl
  go_enter Tryd.func126, Tryd.ntmps126
  go_wp2
  go_ret
  exact ⟨rfl, rfl⟩
theorem rot7 (x : UInt32) (w : World) : Calls Tryd.prog 126 #[u32v x, .int .i64 (-7)] w fun e w' => e = .returned (u32v (rotr x 7)) ∧ w = w' := by
  have hs : bits .and .u64 (IntKind.u64.wrap (-7)) 31 = 25 := by kernel_rfl
  have he : bits .or .u32 ((x.toNat : Int) * 33554432 % 4294967296) ((x.toNat : Int) / 128) = ((rotr x 7).toNat : Int) := by
    have h1 : (x.toNat : Int) * 33554432 % 4294967296 = ((x <<< (25 : UInt32)).toNat : Int) := by have := ushl x 25 (by decide); rw [IntKind.wrap_u32'] at this; exact this
    have h2 : (x.toNat : Int) / 128 = ((x >>> (7 : UInt32)).toNat : Int) := ushr x 7 (by decide)
    rw [h1, h2, uor]; rfl
  go_enter Tryd.func126, Tryd.ntmps126
  go_wp2
  go_ret
  exact ⟨rfl, rfl⟩
theorem rot11 (x : UInt32) (w : World) : Calls Tryd.prog 126 #[u32v x, .int .i64 (-11)] w fun e w' => e = .returned (u32v (rotr x 11)) ∧ w = w' := by
  have hs : bits .and .u64 (IntKind.u64.wrap (-11)) 31 = 21 := by kernel_rfl
  have he : bits .or .u32 ((x.toNat : Int) * 2097152 % 4294967296) ((x.toNat : Int) / 2048) = ((rotr x 11).toNat : Int) := by
    have h1 : (x.toNat : Int) * 2097152 % 4294967296 = ((x <<< (21 : UInt32)).toNat : Int) := by have := ushl x 21 (by decide); rw [IntKind.wrap_u32'] at this; exact this
    have h2 : (x.toNat : Int) / 2048 = ((x >>> (11 : UInt32)).toNat : Int) := ushr x 11 (by decide)
    rw [h1, h2, uor]; rfl
  go_enter Tryd.func126, Tryd.ntmps126
  go_wp2
  go_ret
  exact ⟨rfl, rfl⟩
theorem rot13 (x : UInt32) (w : World) : Calls Tryd.prog 126 #[u32v x, .int .i64 (-13)] w fun e w' => e = .returned (u32v (rotr x 13)) ∧ w = w' := by
  have hs : bits .and .u64 (IntKind.u64.wrap (-13)) 31 = 19 := by kernel_rfl
  have he : bits .or .u32 ((x.toNat : Int) * 524288 % 4294967296) ((x.toNat : Int) / 8192) = ((rotr x 13).toNat : Int) := by
    have h1 : (x.toNat : Int) * 524288 % 4294967296 = ((x <<< (19 : UInt32)).toNat : Int) := by have := ushl x 19 (by decide); rw [IntKind.wrap_u32'] at this; exact this
    have h2 : (x.toNat : Int) / 8192 = ((x >>> (13 : UInt32)).toNat : Int) := ushr x 13 (by decide)
    rw [h1, h2, uor]; rfl
  go_enter Tryd.func126, Tryd.ntmps126
  go_wp2
  go_ret
  exact ⟨rfl, rfl⟩
theorem rot17 (x : UInt32) (w : World) : Calls Tryd.prog 126 #[u32v x, .int .i64 (-17)] w fun e w' => e = .returned (u32v (rotr x 17)) ∧ w = w' := by
  have hs : bits .and .u64 (IntKind.u64.wrap (-17)) 31 = 15 := by kernel_rfl
  have he : bits .or .u32 ((x.toNat : Int) * 32768 % 4294967296) ((x.toNat : Int) / 131072) = ((rotr x 17).toNat : Int) := by
    have h1 : (x.toNat : Int) * 32768 % 4294967296 = ((x <<< (15 : UInt32)).toNat : Int) := by have := ushl x 15 (by decide); rw [IntKind.wrap_u32'] at this; exact this
    have h2 : (x.toNat : Int) / 131072 = ((x >>> (17 : UInt32)).toNat : Int) := ushr x 17 (by decide)
    rw [h1, h2, uor]; rfl
  go_enter Tryd.func126, Tryd.ntmps126
  go_wp2
  go_ret
  exact ⟨rfl, rfl⟩
theorem rot18 (x : UInt32) (w : World) : Calls Tryd.prog 126 #[u32v x, .int .i64 (-18)] w fun e w' => e = .returned (u32v (rotr x 18)) ∧ w = w' := by
  have hs : bits .and .u64 (IntKind.u64.wrap (-18)) 31 = 14 := by kernel_rfl
  have he : bits .or .u32 ((x.toNat : Int) * 16384 % 4294967296) ((x.toNat : Int) / 262144) = ((rotr x 18).toNat : Int) := by
    have h1 : (x.toNat : Int) * 16384 % 4294967296 = ((x <<< (14 : UInt32)).toNat : Int) := by have := ushl x 14 (by decide); rw [IntKind.wrap_u32'] at this; exact this
    have h2 : (x.toNat : Int) / 262144 = ((x >>> (18 : UInt32)).toNat : Int) := ushr x 18 (by decide)
    rw [h1, h2, uor]; rfl
  go_enter Tryd.func126, Tryd.ntmps126
  go_wp2
  go_ret
  exact ⟨rfl, rfl⟩
theorem rot19 (x : UInt32) (w : World) : Calls Tryd.prog 126 #[u32v x, .int .i64 (-19)] w fun e w' => e = .returned (u32v (rotr x 19)) ∧ w = w' := by
  have hs : bits .and .u64 (IntKind.u64.wrap (-19)) 31 = 13 := by kernel_rfl
  have he : bits .or .u32 ((x.toNat : Int) * 8192 % 4294967296) ((x.toNat : Int) / 524288) = ((rotr x 19).toNat : Int) := by
    have h1 : (x.toNat : Int) * 8192 % 4294967296 = ((x <<< (13 : UInt32)).toNat : Int) := by have := ushl x 13 (by decide); rw [IntKind.wrap_u32'] at this; exact this
    have h2 : (x.toNat : Int) / 524288 = ((x >>> (19 : UInt32)).toNat : Int) := ushr x 19 (by decide)
    rw [h1, h2, uor]; rfl
  go_enter Tryd.func126, Tryd.ntmps126
  go_wp2
  go_ret
  exact ⟨rfl, rfl⟩
theorem rot22 (x : UInt32) (w : World) : Calls Tryd.prog 126 #[u32v x, .int .i64 (-22)] w fun e w' => e = .returned (u32v (rotr x 22)) ∧ w = w' := by
  have hs : bits .and .u64 (IntKind.u64.wrap (-22)) 31 = 10 := by kernel_rfl
  have he : bits .or .u32 ((x.toNat : Int) * 1024 % 4294967296) ((x.toNat : Int) / 4194304) = ((rotr x 22).toNat : Int) := by
    have h1 : (x.toNat : Int) * 1024 % 4294967296 = ((x <<< (10 : UInt32)).toNat : Int) := by have := ushl x 10 (by decide); rw [IntKind.wrap_u32'] at this; exact this
    have h2 : (x.toNat : Int) / 4194304 = ((x >>> (22 : UInt32)).toNat : Int) := ushr x 22 (by decide)
    rw [h1, h2, uor]; rfl
  go_enter Tryd.func126, Tryd.ntmps126
  go_wp2
  go_ret
  exact ⟨rfl, rfl⟩
theorem rot25 (x : UInt32) (w : World) : Calls Tryd.prog 126 #[u32v x, .int .i64 (-25)] w fun e w' => e = .returned (u32v (rotr x 25)) ∧ w = w' := by
  have hs : bits .and .u64 (IntKind.u64.wrap (-25)) 31 = 7 := by kernel_rfl
  have he : bits .or .u32 ((x.toNat : Int) * 128 % 4294967296) ((x.toNat : Int) / 33554432) = ((rotr x 25).toNat : Int) := by
    have h1 : (x.toNat : Int) * 128 % 4294967296 = ((x <<< (7 : UInt32)).toNat : Int) := by have := ushl x 7 (by decide); rw [IntKind.wrap_u32'] at this; exact this
    have h2 : (x.toNat : Int) / 33554432 = ((x >>> (25 : UInt32)).toNat : Int) := ushr x 25 (by decide)
    rw [h1, h2, uor]; rfl
  go_enter Tryd.func126, Tryd.ntmps126
  go_wp2
  go_ret
  exact ⟨rfl, rfl⟩
end Go.Proofs.YtagpimahicgkmaaDoor

/-! SHA-256 in plain Lean, as the program computes it. -/
namespace Go.Proofs.YtagpimahicgkmaaDoor
open Go.RowKit

def byteAt (s : ByteArray) (n : Nat) : UInt8 := s.data.toList.getD n 0
def word4 (a b c d : UInt8) : UInt32 := ((a.toUInt32 <<< 24 ||| b.toUInt32 <<< 16) ||| c.toUInt32 <<< 8) ||| d.toUInt32
def wordAt (s : ByteArray) (i : Nat) : UInt32 := word4 (byteAt s (4 * i)) (byteAt s (4 * i + 1)) (byteAt s (4 * i + 2)) (byteAt s (4 * i + 3))
def sig0 (x : UInt32) : UInt32 := (rotr x 7 ^^^ rotr x 18) ^^^ x >>> 3
def sig1 (x : UInt32) : UInt32 := (rotr x 17 ^^^ rotr x 19) ^^^ x >>> 10
def at32 (l : List UInt32) (i : Nat) : UInt32 := l.getD i 0
def nextW (s : ByteArray) (l : List UInt32) (k : Nat) : UInt32 :=
  if k < 16 then wordAt s k else ((at32 l (k - 16) + sig0 (at32 l (k - 15))) + at32 l (k - 7)) + sig1 (at32 l (k - 2))
/-- The words of a block, the first k of them. -/
def schTo (s : ByteArray) : Nat → List UInt32
  | 0 => List.replicate 64 0
  | k + 1 => (schTo s k).set k (nextW s (schTo s k) k)
theorem schTo_len (s : ByteArray) : ∀ k, (schTo s k).length = 64
  | 0 => by simp [schTo]
  | k + 1 => by rw [schTo, List.length_set, schTo_len]
def sched (s : ByteArray) : List UInt32 := schTo s 64
theorem sched_len (s : ByteArray) : (sched s).length = 64 := schTo_len s 64
def wv (l : List UInt32) : List Value := l.map u32v
theorem wv_len (l : List UInt32) : (wv l).length = l.length := by simp [wv]
theorem wv_set (l : List UInt32) (k : Nat) (x : UInt32) : wv (l.set k x) = (wv l).set k (u32v x) := by simp [wv, List.map_set]
theorem wv_at {l : List UInt32} {k : Nat} (h : k < l.length) : (wv l)[k]? = some (u32v (at32 l k)) := by simp [wv, at32, h]
theorem byteAt_lt {s : ByteArray} {n : Nat} (h : n < s.size) : byteAt s n = s[n] := by
  unfold byteAt
  have h' : n < s.data.toList.length := by simpa using h
  rw [List.getD_eq_getElem?_getD, List.getElem?_eq_getElem h']
  rfl
theorem byte_u32 (a : UInt8) : (a.toNat : Int) % 4294967296 = (a.toUInt32.toNat : Int) := by
  rw [UInt8.toNat_toUInt32]; have := a.toNat_lt; omega
theorem shl24 (x : UInt32) : (x.toNat : Int) * 16777216 % 4294967296 = ((x <<< (24 : UInt32)).toNat : Int) := by have := ushl x 24 (by decide); rw [IntKind.wrap_u32'] at this; exact this
theorem shl16 (x : UInt32) : (x.toNat : Int) * 65536 % 4294967296 = ((x <<< (16 : UInt32)).toNat : Int) := by have := ushl x 16 (by decide); rw [IntKind.wrap_u32'] at this; exact this
theorem shl8 (x : UInt32) : (x.toNat : Int) * 256 % 4294967296 = ((x <<< (8 : UInt32)).toNat : Int) := by have := ushl x 8 (by decide); rw [IntKind.wrap_u32'] at this; exact this
theorem word_bits (a b c d : UInt8) : bits .or .u32 (bits .or .u32 (bits .or .u32 ((a.toNat : Int) % 4294967296 * 16777216 % 4294967296) ((b.toNat : Int) % 4294967296 * 65536 % 4294967296)) ((c.toNat : Int) % 4294967296 * 256 % 4294967296)) ((d.toNat : Int) % 4294967296) = ((word4 a b c d).toNat : Int) := by
  rw [byte_u32, byte_u32, byte_u32, byte_u32, shl24, shl16, shl8, uor, uor, uor]; rfl
theorem shr3 (x : UInt32) : (x.toNat : Int) / 8 = ((x >>> (3 : UInt32)).toNat : Int) := ushr x 3 (by decide)
theorem shr10 (x : UInt32) : (x.toNat : Int) / 1024 = ((x >>> (10 : UInt32)).toNat : Int) := ushr x 10 (by decide)

theorem sig0_bits (x : UInt32) : bits .xor .u32 (bits .xor .u32 ((rotr x 7).toNat : Int) ((rotr x 18).toNat : Int)) ((x.toNat : Int) / 8) = ((sig0 x).toNat : Int) := by
  rw [shr3, uxor, uxor]; rfl
theorem sig1_bits (x : UInt32) : bits .xor .u32 (bits .xor .u32 ((rotr x 17).toNat : Int) ((rotr x 19).toNat : Int)) ((x.toNat : Int) / 1024) = ((sig1 x).toNat : Int) := by
  rw [shr10, uxor, uxor]; rfl

/-! A whole array is stored. -/
theorem Own.setCells {g : Nat} {t : TypeId} : ∀ (vs : List Value) (o : Nat) {w : World} {cs : List Value}, Own w g t cs → o + vs.length ≤ cs.length → Own (w.setCells g o vs) g t (cs.take o ++ vs ++ cs.drop (o + vs.length))
  | [], o, w, cs, h, _ => by simpa [World.setCells] using h
  | v :: r, o, w, cs, h, hl => by
    rw [List.length_cons] at hl
    have := Own.setCells r (o + 1) (h.set_ o v) (by rw [List.length_set]; omega)
    rw [World.setCells]
    have e : (cs.set o v).take (o + 1) ++ r ++ (cs.set o v).drop (o + 1 + r.length) = cs.take o ++ v :: r ++ cs.drop (o + (v :: r).length) := by
      rw [List.drop_set_of_lt (by omega), List.take_succ_eq_append_getElem (by rw [List.length_set]; omega), List.getElem_set_self, List.take_set_of_le (Nat.le_refl _), List.length_cons, show o + 1 + r.length = o + (r.length + 1) by omega]
      simp
    rw [e] at this
    exact this
theorem Own.setAll {w : World} {g : Nat} {t : TypeId} {cs vs : List Value} (h : Own w g t cs) (hl : vs.length = cs.length) : Own (w.setCells g 0 vs) g t vs := by
  have := Own.setCells vs 0 h (by omega)
  rw [List.take_zero, List.nil_append, List.drop_of_length_le (by omega), List.append_nil] at this
  exact this
theorem Own.farAll {g g' : Nat} {t : TypeId} {cs : List Value} (hne : g ≠ g') : ∀ (vs : List Value) (o : Nat) {w : World}, Own w g t cs → Own (w.setCells g' o vs) g t cs
  | [], _, _, h => h
  | v :: r, o, w, h => Own.farAll hne r (o + 1) (h.far (p := ⟨g', o, none⟩) hne v)
theorem Kept.setCells {a : World} {g : Nat} (hg : a.heap.size ≤ g) : ∀ (vs : List Value) (o : Nat) {b : World}, Kept a b → Kept a (b.setCells g o vs)
  | [], _, _, h => h
  | v :: r, o, b, h => Kept.setCells hg r (o + 1) (h.setCell (p := ⟨g, o, none⟩) hg v)
theorem Own.there {w : World} {g : Nat} {t : TypeId} {cs : List Value} (h : Own w g t cs) {n : Nat} (hn : n = cs.length) : w.there g 0 n := fun j hj => by
  rw [Nat.zero_add]
  exact ⟨by rw [h.cell?, List.getElem?_eq_getElem (by omega)]; rfl, h.frozen j⟩
theorem wv_one (l : List UInt32) : (wv l).toArray.all (·.oneCell') = true := by
  rw [Array.all_eq_true_iff_forall_mem]
  intro x hx
  simp only [List.mem_toArray, wv, List.mem_map] at hx
  obtain ⟨y, _, rfl⟩ := hx
  rfl
/-! The constants, and the rounds. -/
def K64 : List UInt32 := [1116352408, 1899447441, 3049323471, 3921009573, 961987163, 1508970993, 2453635748, 2870763221, 3624381080, 310598401, 607225278, 1426881987, 1925078388, 2162078206, 2614888103, 3248222580, 3835390401, 4022224774, 264347078, 604807628, 770255983, 1249150122, 1555081692, 1996064986, 2554220882, 2821834349, 2952996808, 3210313671, 3336571891, 3584528711, 113926993, 338241895, 666307205, 773529912, 1294757372, 1396182291, 1695183700, 1986661051, 2177026350, 2456956037, 2730485921, 2820302411, 3259730800, 3345764771, 3516065817, 3600352804, 4094571909, 275423344, 430227734, 506948616, 659060556, 883997877, 958139571, 1322822218, 1537002063, 1747873779, 1955562222, 2024104815, 2227730452, 2361852424, 2428436474, 2756734187, 3204031479, 3329325298]
theorem K64_len : K64.length = 64 := rfl
structure St where
  a : UInt32
  b : UInt32
  c : UInt32
  d : UInt32
  e : UInt32
  f : UInt32
  g : UInt32
  h : UInt32
def st0 : St := ⟨1779033703, 3144134277, 1013904242, 2773480762, 1359893119, 2600822924, 528734635, 1541459225⟩
def stv (s : St) : List Value := [u32v s.a, u32v s.b, u32v s.c, u32v s.d, u32v s.e, u32v s.f, u32v s.g, u32v s.h]
def sum1 (e : UInt32) : UInt32 := (rotr e 6 ^^^ rotr e 11) ^^^ rotr e 25
def sum0 (a : UInt32) : UInt32 := (rotr a 2 ^^^ rotr a 13) ^^^ rotr a 22
def chose (e f g : UInt32) : UInt32 := (e &&& f) ^^^ (~~~e &&& g)
def majo (a b c : UInt32) : UInt32 := ((a &&& b) ^^^ (a &&& c)) ^^^ (b &&& c)
def tmp1 (k w : UInt32) (s : St) : UInt32 := s.h + sum1 s.e + chose s.e s.f s.g + k + w
def tmp2 (s : St) : UInt32 := sum0 s.a + majo s.a s.b s.c
def rnd (k w : UInt32) (s : St) : St := ⟨tmp1 k w s + tmp2 s, s.a, s.b, s.c, s.d + tmp1 k w s, s.e, s.f, s.g⟩
def rndTo (W : List UInt32) (s : St) : Nat → St
  | 0 => s
  | i + 1 => rnd (at32 K64 i) (at32 W i) (rndTo W s i)
def addSt (s t : St) : St := ⟨s.a + t.a, s.b + t.b, s.c + t.c, s.d + t.d, s.e + t.e, s.f + t.f, s.g + t.g, s.h + t.h⟩
def blockSt (s : St) (b : ByteArray) : St := addSt s (rndTo (sched b) s 64)
/-- The tables, where the program keeps them. -/
structure Tab (w : World) (g : Nat) (cs : List Value) : Prop where
  lt : g < w.heap.size
  cell? : ∀ i, w.cell? ⟨g, i, none⟩ = cs[i]?
theorem Tab.kept {w w' : World} {g : Nat} {cs : List Value} (h : Tab w g cs) (k : Kept w w') : Tab w' g cs := ⟨Nat.lt_of_lt_of_le h.lt k.size, fun i => (k.cell (p := ⟨g, i, none⟩) h.lt).trans (h.cell? i)⟩
structure Tabs (w : World) : Prop where
  ini : Tab w 0 (stv st0)
  rou : Tab w 1 (wv K64)
theorem Tabs.kept {w w' : World} (h : Tabs w) (k : Kept w w') : Tabs w' := ⟨h.ini.kept k, h.rou.kept k⟩
theorem run_index_arr {P : Program} (w : World) (t e : TypeId) (n : Nat) (L : List UInt32) (k : Nat) (hu : P.underlying t = some (.array n e)) (ha : ∀ w, (isAgg e).run P w = .ok false w) (hz : ∀ w, (sizeOf e).run P w = .ok 1 w) (hk : k < L.length) (hn : k < n) :
    (Instr.index t (.agg (wv L).toArray) (.int .i64 (k : Int))).run P w = .ok (u32v (at32 L k)) w := by
  have hc : (wv L)[k]? = some (u32v (at32 L k)) := wv_at hk
  have h0 : (0 : Int) ≤ (k : Int) ∧ (k : Int) < (n : Int) := ⟨by omega, by omega⟩
  simp [Instr.index, asIntOf, run_underlying hu, part, ha, hz, hc, h0]
  omega
theorem Tryd.szU32 : ∀ w, (sizeOf 163).run Tryd.prog w = .ok 1 w := fun w => by
  obtain ⟨i, hi, _, hsz, _⟩ := info_parts (show (Tryd.prog.info? 163).map (fun i => (i.zero, i.size, i.bytes)) = some (some (.int .u32 0), 1, 4) by kernel_rfl)
  simp [sizeOf, typeInfo, hi, hsz]
end Go.Proofs.YtagpimahicgkmaaDoor

/-! Walk: sha.schedule. -/
namespace Go.Proofs.YtagpimahicgkmaaDoor
open Go.RowKit

def T189 : TypeId := 189
theorem byte_ext {s : ByteArray} {a b j : Nat} (hb : b ≤ s.size) (hj : a + j < b) : byteAt (s.extract a b) j = byteAt s (a + j) := by
  unfold byteAt
  rw [ByteArray.data_extract, Array.toList_extract]
  simp only [List.getD, List.extract_eq_take_drop]
  rw [List.getElem?_take, if_pos (by omega), List.getElem?_drop]
set_option maxRecDepth 100000 in
set_option maxHeartbeats 2000000 in
theorem sched_n (s : ByteArray) (L : List UInt32) (n : Nat) (w : World) (hs : s.size = 64) (hn : n = 64) (hL : schTo s n = L) :
    Calls Tryd.prog 125 #[.string s] w fun e w' => e = .returned (.agg (wv L).toArray) ∧ Kept w w' := by
  have HS := Lib.hid hs
  have HL := Lib.hid hL
  have HLL : Hid (L.length = 64) := by show _ = _; rw [← hL, schTo_len]
  have HN := Lib.hid hn
  clear hL hn
  go_enter Tryd.func125, Tryd.ntmps125
  go_wp2
  go_loopw [11] (fun iv wr => ∃ i : Nat, i ≤ 16 ∧ iv = .int .i64 i ∧ Own wr w.heap.size 189 (wv (List.replicate 64 0)) ∧ Own wr (w.heap.size + 1) 189 (wv (schTo s i)) ∧ Kept w wr) (fun iv _ => 16 - (intOf iv).toNat)
  case atStart =>
    exact ⟨0, Nat.zero_le _, rfl, (Own.new w 189 (wv (List.replicate 64 0))).alloc _, Own.new1 w _ 189 (wv (List.replicate 64 0)), ((Kept.refl w).alloc _).alloc _⟩
  case round =>
    obtain ⟨i, hi, rfl, oz, ow, K⟩ := hrel
    have OZ := Lib.hid oz
    have OW := Lib.hid ow
    by_cases hlt : i < 16
    · have hc := ow.cell? i
      rw [wv_at (by rw [schTo_len]; omega)] at hc
      have hf := ow.frozen i
      clear oz ow
      have i0 : (0 : Int) ≤ (i : Int) := by omega
      have i1 : (i : Int) < 64 := by omega
      have hs64 : s.size = 64 := HS.out
      have q1 : IntKind.i64.wrap (4 * (i : Int)) = 4 * (i : Int) := IntWalk.i64_in _ (by omega)
      have hsl : ∀ w' : World, (Instr.slice 9 (.string s) (some (.int .i64 (4 * (i : Int)))) (some (.int .i64 (4 * (i : Int) + 4))) none).run Tryd.prog w' = .ok (.string (s.extract (4 * i) (4 * i + 4))) w' := fun w' => by
        have := run_slice_string (P := Tryd.prog) w' 9 s .i64 .i64 (4 * (i : Int)) (4 * (i : Int) + 4) Tryd.underlying9 (by omega) (by omega) (by omega)
        rw [this, show (4 * (i : Int)).toNat = 4 * i by omega, show (4 * (i : Int) + 4).toNat = 4 * i + 4 by omega]
      go_upto_region 6 with fail
      have ht4 : (s.extract (4 * i) (4 * i + 4)).size = 4 := by rw [ByteArray.size_extract]; omega
      have HW : Hid (nextW s (schTo s i) i = word4 (byteAt (s.extract (4 * i) (4 * i + 4)) 0) (byteAt (s.extract (4 * i) (4 * i + 4)) 1) (byteAt (s.extract (4 * i) (4 * i + 4)) 2) (byteAt (s.extract (4 * i) (4 * i + 4)) 3)) := by
        show _ = _
        rw [nextW, if_pos hlt, wordAt, byte_ext (by omega) (by omega), byte_ext (by omega) (by omega), byte_ext (by omega) (by omega), byte_ext (by omega) (by omega)]; rfl
      generalize s.extract (4 * i) (4 * i + 4) = t at *
      refine region_tail 20 (by kernel_rfl) (by kernel_rfl) ?_
      simp only [List.take_succ_cons, List.take_zero, List.drop_succ_cons, List.drop_zero]
      repeat still_step
      refine wpStill_nil ?_
      have hB := word_bits t[0] t[1] t[2] t[3]
      have HB : Hid (word4 t[0] t[1] t[2] t[3] = nextW s (schTo s i) i) := by
        show _ = _
        rw [HW.out, byteAt_lt, byteAt_lt, byteAt_lt, byteAt_lt]
      rw [HB.out] at hB
      go_wp2
      go_roundw
      case rel =>
        refine ⟨i + 1, by omega, by go_num, (OZ.out.far (by simp) _).drew, ?_, (K.setCell (by simp) _).drew⟩
        rw [schTo, wv_set]
        exact (OW.out.set_ i _).drew
      case measure => simp [intOf]; omega
    · obtain rfl : i = 16 := by omega
      clear oz ow
      go_wp2
      go_loopw [6] (fun iv wq => ∃ k : Nat, 16 ≤ k ∧ k ≤ 64 ∧ iv = .int .i64 k ∧ Own wq w.heap.size 189 (wv (List.replicate 64 0)) ∧ Own wq (w.heap.size + 1) 189 (wv (schTo s k)) ∧ Kept w wq) (fun iv _ => 64 - (intOf iv).toNat)
      case atStart => exact ⟨16, by omega, by omega, rfl, OZ.out, OW.out, K⟩
      case round =>
        clear OZ OW K
        obtain ⟨k, hk16, hk, rfl, oz, ow, K⟩ := hrel
        have OZ := Lib.hid oz
        have OW := Lib.hid ow
        by_cases hlt2 : k < 64
        · have c15 := ow.cell? (k - 15)
          rw [wv_at (by rw [schTo_len]; omega)] at c15
          have c2 := ow.cell? (k - 2)
          rw [wv_at (by rw [schTo_len]; omega)] at c2
          have c16 := ow.cell? (k - 16)
          rw [wv_at (by rw [schTo_len]; omega)] at c16
          have c7 := ow.cell? (k - 7)
          rw [wv_at (by rw [schTo_len]; omega)] at c7
          have hc := ow.cell? k
          rw [wv_at (by rw [schTo_len]; omega)] at hc
          have hf := ow.frozen k
          have HW : Hid (nextW s (schTo s k) k = ((at32 (schTo s k) (k - 16) + sig0 (at32 (schTo s k) (k - 15))) + at32 (schTo s k) (k - 7)) + sig1 (at32 (schTo s k) (k - 2))) := by show _ = _; rw [nextW, if_neg (by omega)]
          clear oz ow
          generalize at32 (schTo s k) (k - 16) = a16 at *
          generalize at32 (schTo s k) (k - 15) = a15 at *
          generalize at32 (schTo s k) (k - 7) = a7 at *
          generalize at32 (schTo s k) (k - 2) = a2 at *
          have k0 : (0 : Int) ≤ (k : Int) := by omega
          have k1 : (k : Int) < 64 := by omega
          have k2 : (16 : Int) ≤ (k : Int) := by omega
          have k7 : (7 : Int) ≤ (k : Int) := by omega
          have k15 : (15 : Int) ≤ (k : Int) := by omega
          have k22 : (2 : Int) ≤ (k : Int) := by omega
          have u7 : (k : Int) < 71 := by omega
          have w15 : IntKind.i64.wrap ((k : Int) - 15) = (k : Int) - 15 := IntWalk.i64_in _ (by omega)
          have w2 : IntKind.i64.wrap ((k : Int) - 2) = (k : Int) - 2 := IntWalk.i64_in _ (by omega)
          have w16 : IntKind.i64.wrap ((k : Int) - 16) = (k : Int) - 16 := IntWalk.i64_in _ (by omega)
          have w7 : IntKind.i64.wrap ((k : Int) - 7) = (k : Int) - 7 := IntWalk.i64_in _ (by omega)
          have t15 : ((k : Int) - 15).toNat = k - 15 := by omega
          have t2 : ((k : Int) - 2).toNat = k - 2 := by omega
          have t16 : ((k : Int) - 16).toNat = k - 16 := by omega
          have t7 : ((k : Int) - 7).toNat = k - 7 := by omega
          have p15 : (0 : Int) ≤ (k : Int) - 15 := by omega
          have p2 : (0 : Int) ≤ (k : Int) - 2 := by omega
          have p16 : (0 : Int) ≤ (k : Int) - 16 := by omega
          have p7 : (0 : Int) ≤ (k : Int) - 7 := by omega
          have l15 : (k : Int) - 15 < 64 := by omega
          have l2 : (k : Int) - 2 < 64 := by omega
          have l16 : (k : Int) - 16 < 64 := by omega
          have l7 : (k : Int) - 7 < 64 := by omega
          go_upto_region 11 with fail
          go_quiet (fail)
          have hs0 := sig0_bits a15
          have hs1 := sig1_bits a2
          go_wp2_with fail
          refine (rot7 _ _).mono ?_
          rintro e _ ⟨rfl, rfl⟩
          go_wp2_with fail
          refine (rot18 _ _).mono ?_
          rintro e _ ⟨rfl, rfl⟩
          go_wp2_with fail
          refine (rot17 _ _).mono ?_
          rintro e _ ⟨rfl, rfl⟩
          go_wp2_with fail
          refine (rot19 _ _).mono ?_
          rintro e _ ⟨rfl, rfl⟩
          go_upto_region 14 with fail
          refine region_tail 15 (by kernel_rfl) (by kernel_rfl) ?_
          simp only [List.take_succ_cons, List.take_zero, List.drop_succ_cons, List.drop_zero]
          repeat still_step
          refine wpStill_nil ?_
          have HSC : Hid (schTo s (k + 1) = (schTo s k).set k (nextW s (schTo s k) k)) := rfl
          have HVAL : Hid (((a16.toNat : Int) + ((sig0 a15).toNat : Int) + (a7.toNat : Int) + ((sig1 a2).toNat : Int)) % 4294967296 = ((nextW s (schTo s k) k).toNat : Int)) := by show _ = _; rw [uadd4, HW.out]
          clear w15 w2 w16 w7 t15 t2 t16 t7 p15 p2 p16 p7 l15 l2 l16 l7 k7 k15 k22 u7 c15 c2 c16 c7 hs0 hs1
          have wk : IntKind.i64.wrap ((k : Int) + 1) = (k : Int) + 1 := IntWalk.i64_in _ (by omega)
          go_wp2
          go_roundw
          case rel =>
            have hv := HVAL.out
            have ho := (OW.out.drewN (nq + 1)).set_ k (u32v (nextW s (schTo s k) k))
            rw [← wv_set, ← HSC.out] at ho
            (repeat apply Exists.intro)
            exact ⟨⟨k + 1, by omega, by omega, by go_num, (OZ.out.drewN _).far (by simp) _, by rw [hv]; exact ho, (K.drewN _).setCell (by simp) _⟩, rfl⟩
          case measure => simp [intOf]; omega
        · obtain rfl : k = n := by rw [HN.out]; omega
          rw [HL.out] at OW
          clear oz ow
          have hz := OZ.out.there (n := (wv L).toArray.size) (by simp [wv_len, HLL.out])
          have HSZ : Hid ((Tryd.prog.info? 189).map (·.size) = some (wv L).toArray.size) := by
            show _ = _
            rw [show (wv L).toArray.size = 64 by simp [wv_len, HLL.out]]; kernel_rfl
          go_wp2_with (first
            | (refine wpList_load_row rfl 189 (.tmp 3) rfl (w.heap.size + 1) rfl 189 (wv L).toArray (0, 0) _ OW.out Tryd.underlying189 rfl HSZ.out ?_)
            | (refine wpList_store_mid rfl 189 (.tmp 2) (.tmp 85) rfl w.heap.size 0 (wv L).toArray rfl rfl hz HSZ.out (wv_one _) ?_))
          have oz' := OZ.out.setAll (vs := (wv L).toArray.toList) (by simp [wv_len, HLL.out])
          refine bodyPost_ret (v := .agg (wv L).toArray) ?_ rfl ?_
          · exact results_cell_row Tryd.results125 _ _ w.heap.size 189 (wv L).toArray (0, 0) _ (by rfl) oz' Tryd.underlying189 rfl HSZ.out
          exact ⟨rfl, Kept.setCells (Nat.le_refl _) _ _ K⟩
theorem sched_any (s : ByteArray) (w : World) (hs : s.size = 64) :
    Calls Tryd.prog 125 #[.string s] w fun e w' => e = .returned (.agg (wv (sched s)).toArray) ∧ Kept w w' := sched_n s _ 64 w hs rfl rfl
end Go.Proofs.YtagpimahicgkmaaDoor

/-! Walk: sha.Block. -/
namespace Go.Proofs.YtagpimahicgkmaaDoor
open Go.RowKit

theorem sum1_bits (x : UInt32) : bits .xor .u32 (bits .xor .u32 ((rotr x 6).toNat : Int) ((rotr x 11).toNat : Int)) ((rotr x 25).toNat : Int) = ((sum1 x).toNat : Int) := by
  rw [uxor, uxor]; rfl
theorem sum0_bits (x : UInt32) : bits .xor .u32 (bits .xor .u32 ((rotr x 2).toNat : Int) ((rotr x 13).toNat : Int)) ((rotr x 22).toNat : Int) = ((sum0 x).toNat : Int) := by
  rw [uxor, uxor]; rfl
set_option maxRecDepth 100000 in
set_option maxHeartbeats 4000000 in
theorem block_n (s : ByteArray) (L : List UInt32) (n : Nat) (st : St) (w : World) (hs : s.size = 64) (hn : n = 64) (hll : L.length = 64) (hsc : ∀ w, Calls Tryd.prog 125 #[.string s] w fun e w' => e = .returned (.agg (wv L).toArray) ∧ Kept w w') (ht : Tabs w) :
    Calls Tryd.prog 101 #[.agg #[u32v st.a, u32v st.b, u32v st.c, u32v st.d, u32v st.e, u32v st.f, u32v st.g, u32v st.h], .string s] w fun e w' => e = .returned (.agg (stv (addSt st (rndTo L st n))).toArray) ∧ Kept w w' := by
  have HS := Lib.hid hs
  have HSC := Lib.hid hsc
  have HLL := Lib.hid hll
  have HN := Lib.hid hn
  have HT := Lib.hid ht
  clear hsc hll hn ht
  have hs64 : (s.size : Int) = 64 := by omega
  go_enter Tryd.func101, Tryd.ntmps101
  go_wp2_with fail
  have OX : Hid (Own ((w.alloc (.cells #[u32v st.a, u32v st.b, u32v st.c, u32v st.d, u32v st.e, u32v st.f, u32v st.g, u32v st.h] 164)).alloc (.cells #[.int .u32 0, .int .u32 0, .int .u32 0, .int .u32 0, .int .u32 0, .int .u32 0, .int .u32 0, .int .u32 0] 164)) w.heap.size 164 (stv st)) := (Own.newAt w w.heap.size 164 (stv st) rfl).alloc (.cells #[.int .u32 0, .int .u32 0, .int .u32 0, .int .u32 0, .int .u32 0, .int .u32 0, .int .u32 0, .int .u32 0] 164)
  have OR : Hid (Own ((w.alloc (.cells #[u32v st.a, u32v st.b, u32v st.c, u32v st.d, u32v st.e, u32v st.f, u32v st.g, u32v st.h] 164)).alloc (.cells #[.int .u32 0, .int .u32 0, .int .u32 0, .int .u32 0, .int .u32 0, .int .u32 0, .int .u32 0, .int .u32 0] 164)) (w.heap.size + 1) 164 [.int .u32 0, .int .u32 0, .int .u32 0, .int .u32 0, .int .u32 0, .int .u32 0, .int .u32 0, .int .u32 0]) := Own.new1 w (.cells #[u32v st.a, u32v st.b, u32v st.c, u32v st.d, u32v st.e, u32v st.f, u32v st.g, u32v st.h] 164) 164 [.int .u32 0, .int .u32 0, .int .u32 0, .int .u32 0, .int .u32 0, .int .u32 0, .int .u32 0, .int .u32 0]
  have K : Kept w ((w.alloc (.cells #[u32v st.a, u32v st.b, u32v st.c, u32v st.d, u32v st.e, u32v st.f, u32v st.g, u32v st.h] 164)).alloc (.cells #[.int .u32 0, .int .u32 0, .int .u32 0, .int .u32 0, .int .u32 0, .int .u32 0, .int .u32 0, .int .u32 0] 164)) := ((Kept.refl w).alloc (.cells #[u32v st.a, u32v st.b, u32v st.c, u32v st.d, u32v st.e, u32v st.f, u32v st.g, u32v st.h] 164)).alloc (.cells #[.int .u32 0, .int .u32 0, .int .u32 0, .int .u32 0, .int .u32 0, .int .u32 0, .int .u32 0, .int .u32 0] 164)
  generalize ((w.alloc (.cells #[u32v st.a, u32v st.b, u32v st.c, u32v st.d, u32v st.e, u32v st.f, u32v st.g, u32v st.h] 164)).alloc (.cells #[.int .u32 0, .int .u32 0, .int .u32 0, .int .u32 0, .int .u32 0, .int .u32 0, .int .u32 0, .int .u32 0] 164)) = w1 at *
  refine (HSC.out w1).mono ?_
  rintro e w2 ⟨rfl, hk⟩
  replace OX := Lib.hid (OX.out.kept hk)
  replace OR := Lib.hid (OR.out.kept hk)
  replace K := K.trans hk
  clear hk w1 hs hs64
  have HSZ : Hid ((Tryd.prog.info? 189).map (·.size) = some (wv L).toArray.size) := by
    show _ = _
    rw [show (wv L).toArray.size = 64 by simp [wv_len, HLL.out]]; kernel_rfl
  have ow : Own (w2.alloc (.cells #[.int .u32 0, .int .u32 0, .int .u32 0, .int .u32 0, .int .u32 0, .int .u32 0, .int .u32 0, .int .u32 0, .int .u32 0, .int .u32 0, .int .u32 0, .int .u32 0, .int .u32 0, .int .u32 0, .int .u32 0, .int .u32 0, .int .u32 0, .int .u32 0, .int .u32 0, .int .u32 0, .int .u32 0, .int .u32 0, .int .u32 0, .int .u32 0, .int .u32 0, .int .u32 0, .int .u32 0, .int .u32 0, .int .u32 0, .int .u32 0, .int .u32 0, .int .u32 0, .int .u32 0, .int .u32 0, .int .u32 0, .int .u32 0, .int .u32 0, .int .u32 0, .int .u32 0, .int .u32 0, .int .u32 0, .int .u32 0, .int .u32 0, .int .u32 0, .int .u32 0, .int .u32 0, .int .u32 0, .int .u32 0, .int .u32 0, .int .u32 0, .int .u32 0, .int .u32 0, .int .u32 0, .int .u32 0, .int .u32 0, .int .u32 0, .int .u32 0, .int .u32 0, .int .u32 0, .int .u32 0, .int .u32 0, .int .u32 0, .int .u32 0, .int .u32 0] 189)) w2.heap.size 189 (wv (List.replicate 64 0)) := Own.new w2 189 (wv (List.replicate 64 0))
  have hz := ow.there (n := (wv L).toArray.size) (by simp [wv_len, HLL.out])
  have OW : Hid (Own ((w2.alloc (.cells #[.int .u32 0, .int .u32 0, .int .u32 0, .int .u32 0, .int .u32 0, .int .u32 0, .int .u32 0, .int .u32 0, .int .u32 0, .int .u32 0, .int .u32 0, .int .u32 0, .int .u32 0, .int .u32 0, .int .u32 0, .int .u32 0, .int .u32 0, .int .u32 0, .int .u32 0, .int .u32 0, .int .u32 0, .int .u32 0, .int .u32 0, .int .u32 0, .int .u32 0, .int .u32 0, .int .u32 0, .int .u32 0, .int .u32 0, .int .u32 0, .int .u32 0, .int .u32 0, .int .u32 0, .int .u32 0, .int .u32 0, .int .u32 0, .int .u32 0, .int .u32 0, .int .u32 0, .int .u32 0, .int .u32 0, .int .u32 0, .int .u32 0, .int .u32 0, .int .u32 0, .int .u32 0, .int .u32 0, .int .u32 0, .int .u32 0, .int .u32 0, .int .u32 0, .int .u32 0, .int .u32 0, .int .u32 0, .int .u32 0, .int .u32 0, .int .u32 0, .int .u32 0, .int .u32 0, .int .u32 0, .int .u32 0, .int .u32 0, .int .u32 0, .int .u32 0] 189)).setCells w2.heap.size 0 (wv L).toArray.toList) w2.heap.size 189 (wv L)) := ow.setAll (vs := (wv L).toArray.toList) (by simp [wv_len, HLL.out])
  have zX := OX.out.lt
  have zR := OR.out.lt
  replace OX : Hid (Own ((w2.alloc (.cells #[.int .u32 0, .int .u32 0, .int .u32 0, .int .u32 0, .int .u32 0, .int .u32 0, .int .u32 0, .int .u32 0, .int .u32 0, .int .u32 0, .int .u32 0, .int .u32 0, .int .u32 0, .int .u32 0, .int .u32 0, .int .u32 0, .int .u32 0, .int .u32 0, .int .u32 0, .int .u32 0, .int .u32 0, .int .u32 0, .int .u32 0, .int .u32 0, .int .u32 0, .int .u32 0, .int .u32 0, .int .u32 0, .int .u32 0, .int .u32 0, .int .u32 0, .int .u32 0, .int .u32 0, .int .u32 0, .int .u32 0, .int .u32 0, .int .u32 0, .int .u32 0, .int .u32 0, .int .u32 0, .int .u32 0, .int .u32 0, .int .u32 0, .int .u32 0, .int .u32 0, .int .u32 0, .int .u32 0, .int .u32 0, .int .u32 0, .int .u32 0, .int .u32 0, .int .u32 0, .int .u32 0, .int .u32 0, .int .u32 0, .int .u32 0, .int .u32 0, .int .u32 0, .int .u32 0, .int .u32 0, .int .u32 0, .int .u32 0, .int .u32 0, .int .u32 0] 189)).setCells w2.heap.size 0 (wv L).toArray.toList) w.heap.size 164 (stv st)) := (OX.out.alloc _).farAll (by omega) _ _
  replace OR : Hid (Own ((w2.alloc (.cells #[.int .u32 0, .int .u32 0, .int .u32 0, .int .u32 0, .int .u32 0, .int .u32 0, .int .u32 0, .int .u32 0, .int .u32 0, .int .u32 0, .int .u32 0, .int .u32 0, .int .u32 0, .int .u32 0, .int .u32 0, .int .u32 0, .int .u32 0, .int .u32 0, .int .u32 0, .int .u32 0, .int .u32 0, .int .u32 0, .int .u32 0, .int .u32 0, .int .u32 0, .int .u32 0, .int .u32 0, .int .u32 0, .int .u32 0, .int .u32 0, .int .u32 0, .int .u32 0, .int .u32 0, .int .u32 0, .int .u32 0, .int .u32 0, .int .u32 0, .int .u32 0, .int .u32 0, .int .u32 0, .int .u32 0, .int .u32 0, .int .u32 0, .int .u32 0, .int .u32 0, .int .u32 0, .int .u32 0, .int .u32 0, .int .u32 0, .int .u32 0, .int .u32 0, .int .u32 0, .int .u32 0, .int .u32 0, .int .u32 0, .int .u32 0, .int .u32 0, .int .u32 0, .int .u32 0, .int .u32 0, .int .u32 0, .int .u32 0, .int .u32 0, .int .u32 0] 189)).setCells w2.heap.size 0 (wv L).toArray.toList) (w.heap.size + 1) 164 [.int .u32 0, .int .u32 0, .int .u32 0, .int .u32 0, .int .u32 0, .int .u32 0, .int .u32 0, .int .u32 0]) := (OR.out.alloc _).farAll (by omega) _ _
  replace K : Kept w ((w2.alloc (.cells #[.int .u32 0, .int .u32 0, .int .u32 0, .int .u32 0, .int .u32 0, .int .u32 0, .int .u32 0, .int .u32 0, .int .u32 0, .int .u32 0, .int .u32 0, .int .u32 0, .int .u32 0, .int .u32 0, .int .u32 0, .int .u32 0, .int .u32 0, .int .u32 0, .int .u32 0, .int .u32 0, .int .u32 0, .int .u32 0, .int .u32 0, .int .u32 0, .int .u32 0, .int .u32 0, .int .u32 0, .int .u32 0, .int .u32 0, .int .u32 0, .int .u32 0, .int .u32 0, .int .u32 0, .int .u32 0, .int .u32 0, .int .u32 0, .int .u32 0, .int .u32 0, .int .u32 0, .int .u32 0, .int .u32 0, .int .u32 0, .int .u32 0, .int .u32 0, .int .u32 0, .int .u32 0, .int .u32 0, .int .u32 0, .int .u32 0, .int .u32 0, .int .u32 0, .int .u32 0, .int .u32 0, .int .u32 0, .int .u32 0, .int .u32 0, .int .u32 0, .int .u32 0, .int .u32 0, .int .u32 0, .int .u32 0, .int .u32 0, .int .u32 0, .int .u32 0] 189)).setCells w2.heap.size 0 (wv L).toArray.toList) := Kept.setCells K.size _ _ (K.alloc _)
  clear ow
  go_upto_region 4 with (refine wpList_store_mid rfl 189 (.tmp 5) (.tmp 27) rfl w2.heap.size 0 (wv L).toArray rfl rfl hz HSZ.out (wv_one _) ?_)
  clear hz
  generalize ((w2.alloc (.cells #[.int .u32 0, .int .u32 0, .int .u32 0, .int .u32 0, .int .u32 0, .int .u32 0, .int .u32 0, .int .u32 0, .int .u32 0, .int .u32 0, .int .u32 0, .int .u32 0, .int .u32 0, .int .u32 0, .int .u32 0, .int .u32 0, .int .u32 0, .int .u32 0, .int .u32 0, .int .u32 0, .int .u32 0, .int .u32 0, .int .u32 0, .int .u32 0, .int .u32 0, .int .u32 0, .int .u32 0, .int .u32 0, .int .u32 0, .int .u32 0, .int .u32 0, .int .u32 0, .int .u32 0, .int .u32 0, .int .u32 0, .int .u32 0, .int .u32 0, .int .u32 0, .int .u32 0, .int .u32 0, .int .u32 0, .int .u32 0, .int .u32 0, .int .u32 0, .int .u32 0, .int .u32 0, .int .u32 0, .int .u32 0, .int .u32 0, .int .u32 0, .int .u32 0, .int .u32 0, .int .u32 0, .int .u32 0, .int .u32 0, .int .u32 0, .int .u32 0, .int .u32 0, .int .u32 0, .int .u32 0, .int .u32 0, .int .u32 0, .int .u32 0, .int .u32 0] 189)).setCells w2.heap.size 0 (wv L).toArray.toList) = w3 at *
  generalize w2.heap.size = gW at *
  go_frame
  have c0 : w3.cell? ⟨w.heap.size, 0, none⟩ = some (u32v st.a) := OX.out.cell? 0
  have c1 : w3.cell? ⟨w.heap.size, 1, none⟩ = some (u32v st.b) := OX.out.cell? 1
  have c2 : w3.cell? ⟨w.heap.size, 2, none⟩ = some (u32v st.c) := OX.out.cell? 2
  have c3 : w3.cell? ⟨w.heap.size, 3, none⟩ = some (u32v st.d) := OX.out.cell? 3
  have c4 : w3.cell? ⟨w.heap.size, 4, none⟩ = some (u32v st.e) := OX.out.cell? 4
  have c5 : w3.cell? ⟨w.heap.size, 5, none⟩ = some (u32v st.f) := OX.out.cell? 5
  have c6 : w3.cell? ⟨w.heap.size, 6, none⟩ = some (u32v st.g) := OX.out.cell? 6
  have c7 : w3.cell? ⟨w.heap.size, 7, none⟩ = some (u32v st.h) := OX.out.cell? 7
  go_quiet (fail)
  go_wp2_with fail
  go_quiet (fail)
  go_wp2_with (refine wpList_load_row rfl 189 (.tmp 5) rfl gW rfl 189 (wv L).toArray (0, 0) _ OW.out Tryd.underlying189 rfl HSZ.out ?_)
  go_loop [6, 7, 8, 9, 10, 11, 12, 13, 45] (fun va vb vc vd ve vf vg vh iv => ∃ i : Nat, i ≤ 64 ∧ iv = .int .i64 i ∧ va = u32v (rndTo L st i).a ∧ vb = u32v (rndTo L st i).b ∧ vc = u32v (rndTo L st i).c ∧ vd = u32v (rndTo L st i).d ∧ ve = u32v (rndTo L st i).e ∧ vf = u32v (rndTo L st i).f ∧ vg = u32v (rndTo L st i).g ∧ vh = u32v (rndTo L st i).h) (fun _ _ _ _ _ _ _ _ iv => 64 - (intOf iv).toNat)
  case atStart => exact ⟨0, Nat.zero_le _, rfl, rfl, rfl, rfl, rfl, rfl, rfl, rfl, rfl⟩
  case round =>
    obtain ⟨i, hi, rfl, rfl, rfl, rfl, rfl, rfl, rfl, rfl, rfl⟩ := hrel
    by_cases hlt : i < 64
    · have hx := fun w => run_index_arr (P := Tryd.prog) w 189 163 64 L i Tryd.underlying189 Tryd.isAgg163 Tryd.szU32 (by rw [HLL.out]; exact hlt) hlt
      have ck : w3.cell? ⟨1, i, none⟩ = some (u32v (at32 K64 i)) := by
        have := (HT.out.kept K).rou.cell? i
        rw [wv_at (by rw [K64_len]; exact hlt)] at this
        exact this
      have HR : Hid (rndTo L st (i + 1) = rnd (at32 K64 i) (at32 L i) (rndTo L st i)) := rfl
      generalize rndTo L st i = s1 at *
      generalize at32 L i = wi at *
      generalize at32 K64 i = ki at *
      obtain ⟨xa, xb, xc, xd, xe, xf, xg, xh⟩ := s1
      simp only
      have i0 : (0 : Int) ≤ (i : Int) := by omega
      have i1 : (i : Int) < 64 := by omega
      have b1 := sum1_bits xe
      have b0 := sum0_bits xa
      clear c0 c1 c2 c3 c4 c5 c6 c7
      go_wp2_with fail
      refine (rot6 _ _).mono ?_
      rintro e _ ⟨rfl, rfl⟩
      go_wp2_with fail
      refine (rot11 _ _).mono ?_
      rintro e _ ⟨rfl, rfl⟩
      go_wp2_with fail
      refine (rot25 _ _).mono ?_
      rintro e _ ⟨rfl, rfl⟩
      go_wp2_with fail
      refine (rot2 _ _).mono ?_
      rintro e _ ⟨rfl, rfl⟩
      go_wp2_with fail
      refine (rot13 _ _).mono ?_
      rintro e _ ⟨rfl, rfl⟩
      go_wp2_with fail
      refine (rot22 _ _).mono ?_
      rintro e _ ⟨rfl, rfl⟩
      go_wp2_with fail
      go_round
      case rel =>
        simp only [unot, uand, uxor, uadd5, uadd]
        refine ⟨i + 1, by omega, by go_num, ?_⟩
        rw [HR.out]
        exact ⟨rfl, rfl, rfl, rfl, rfl, rfl, rfl, rfl⟩
      case measure => simp [intOf]; omega
    · obtain rfl : i = n := by rw [HN.out]; omega
      obtain ⟨o0, o1, o2, o3, o4, o5, o6, o7⟩ : w3.cell? ⟨w.heap.size + 1, 0, none⟩ = some (.int .u32 0) ∧ w3.cell? ⟨w.heap.size + 1, 1, none⟩ = some (.int .u32 0) ∧ w3.cell? ⟨w.heap.size + 1, 2, none⟩ = some (.int .u32 0) ∧ w3.cell? ⟨w.heap.size + 1, 3, none⟩ = some (.int .u32 0) ∧ w3.cell? ⟨w.heap.size + 1, 4, none⟩ = some (.int .u32 0) ∧ w3.cell? ⟨w.heap.size + 1, 5, none⟩ = some (.int .u32 0) ∧ w3.cell? ⟨w.heap.size + 1, 6, none⟩ = some (.int .u32 0) ∧ w3.cell? ⟨w.heap.size + 1, 7, none⟩ = some (.int .u32 0) :=
        ⟨OR.out.cell? 0, OR.out.cell? 1, OR.out.cell? 2, OR.out.cell? 3, OR.out.cell? 4, OR.out.cell? 5, OR.out.cell? 6, OR.out.cell? 7⟩
      have r0 := OR.out.frozen 0
      have r1 := OR.out.frozen 1
      have r2 := OR.out.frozen 2
      have r3 := OR.out.frozen 3
      have r4 := OR.out.frozen 4
      have r5 := OR.out.frozen 5
      have r6 := OR.out.frozen 6
      have r7 := OR.out.frozen 7
      have HD : Hid (stv (addSt st (rndTo L st i)) = stv (addSt st (rndTo L st i))) := rfl
      generalize hs1 : rndTo L st i = s1 at *
      have HS1 := Lib.hid hs1
      clear hs1
      go_wp2
      simp only [uadd]
      refine bodyPost_ret (v := .agg (stv (addSt st s1)).toArray) ?_ rfl ?_
      · exact results_cell_row Tryd.results101 _ _ (w.heap.size + 1) 164 (stv (addSt st s1)).toArray (0, 0) _ (by rfl) (((((((((OR.out.drewN _).set_ 0 (u32v (st.a + s1.a))).set_ 1 (u32v (st.b + s1.b))).set_ 2 (u32v (st.c + s1.c))).set_ 3 (u32v (st.d + s1.d))).set_ 4 (u32v (st.e + s1.e))).set_ 5 (u32v (st.f + s1.f))).set_ 6 (u32v (st.g + s1.g))).set_ 7 (u32v (st.h + s1.h))) Tryd.underlying164 rfl (by kernel_rfl)
      · exact ⟨by rw [HS1.out], (((((((((K.drewN _).setCell (p := ⟨w.heap.size + 1, 0, none⟩) (by simp) (u32v (st.a + s1.a))).setCell (p := ⟨w.heap.size + 1, 1, none⟩) (by simp) (u32v (st.b + s1.b))).setCell (p := ⟨w.heap.size + 1, 2, none⟩) (by simp) (u32v (st.c + s1.c))).setCell (p := ⟨w.heap.size + 1, 3, none⟩) (by simp) (u32v (st.d + s1.d))).setCell (p := ⟨w.heap.size + 1, 4, none⟩) (by simp) (u32v (st.e + s1.e))).setCell (p := ⟨w.heap.size + 1, 5, none⟩) (by simp) (u32v (st.f + s1.f))).setCell (p := ⟨w.heap.size + 1, 6, none⟩) (by simp) (u32v (st.g + s1.g))).setCell (p := ⟨w.heap.size + 1, 7, none⟩) (by simp) (u32v (st.h + s1.h)))⟩
theorem block_any (s : ByteArray) (st : St) (w : World) (hs : s.size = 64) (ht : Tabs w) :
    Calls Tryd.prog 101 #[.agg (stv st).toArray, .string s] w fun e w' => e = .returned (.agg (stv (blockSt st s)).toArray) ∧ Kept w w' :=
  block_n s (sched s) 64 st w hs rfl (sched_len s) (fun w => sched_any s w hs) ht
end Go.Proofs.YtagpimahicgkmaaDoor

/-! Walk: sha.ending, sha.Sum. -/
namespace Go.Proofs.YtagpimahicgkmaaDoor
open Go.RowKit

theorem wpList_copy_runW {P : Program} (w : World) {ops : Array Oper} {rest : List Oper} {o : Oper} {a : Act} {Q : Exit → Act → World → Prop} (hgd : o.guard = none) (d s : Operand) (t t' : TypeId)
    (ho : o.op = .call { callee := .builtin .copy, args := #[d, s], argTypes := #[t, t'] }) (v u : Value) (hd : a.eval d = v) (hs : a.eval s = u) {v' : Value} {w' : World}
    (hr : (Builtin.copy_ #[t, t'] o.type #[v, u]).run P w = .ok v' w') (h : wpList P ops Q rest (a.put o.dst v') w') : wpList P ops Q (o :: rest) a w :=
  wpList_plain hgd fun _ hK => by
    unfold Oper.wp execOp
    simp only [ho, resolve, invoke, builtin, Sem.run_bind, Sem.run_pure, Result.andThen_ok, List.map_toArray, List.map_cons, List.map_nil, hd, hs, hr]
    exact hK _ _ h

def byteOf (c i : Nat) : UInt8 := UInt8.ofNat (c / 2 ^ (8 * i))
/-- The last blocks, with the first bytes of the count. -/
def endTo (l : List UInt8) (c size : Nat) : Nat → List UInt8
  | 0 => (l ++ List.replicate (size - l.length) 0).set l.length 128
  | i + 1 => (endTo l c size i).set (size - 1 - i) (byteOf c i)
theorem endTo_len {l : List UInt8} {c size : Nat} (h : l.length ≤ size) : ∀ i, (endTo l c size i).length = size
  | 0 => by rw [endTo, List.length_set, List.length_append, List.length_replicate]; omega
  | i + 1 => by rw [endTo, List.length_set, endTo_len h]
theorem bc_set (l : List UInt8) (k : Nat) (x : UInt8) : Lib.byteCells (l.set k x) = (Lib.byteCells l).set k (.int .u8 (x.toNat : Int)) := by simp [Lib.byteCells, List.map_set]
theorem bc_at {l : List UInt8} {k : Nat} (h : k < l.length) : (Lib.byteCells l)[k]? = some (.int .u8 (l[k].toNat : Int)) := by simp [Lib.byteCells, h]
theorem byte_of (c i : Nat) : (c : Int) / 2 ^ (8 * i) % 256 = ((byteOf c i).toNat : Int) := by
  unfold byteOf
  rw [UInt8.toNat_ofNat']
  have e : ((2 : Int) ^ (8 * i)) = ((2 ^ (8 * i) : Nat) : Int) := by rw [Int.natCast_pow]; rfl
  rw [e, ← Int.natCast_ediv]
  generalize c / 2 ^ (8 * i) = m
  omega
set_option maxRecDepth 100000 in
set_option maxHeartbeats 2000000 in
theorem ending_64 (s : ByteArray) (c : Nat) (w : World) (hs : s.size < 64) (h9 : ¬ (64 : Int) < (s.size : Int) + 9) (hle : s.size < 64) (R : List UInt8) (m : Nat) (hm : m = 8) (hR : endTo s.data.toList c 64 m = R) :
    Calls Tryd.prog 102 #[.string s, .int .u64 (c : Int)] w fun e w' => e = .returned (.string ⟨R.toArray⟩) ∧ Kept w w' := by
  have hmk : ∀ w' : World, (Instr.makeSlice 85 (.int .i64 64) (.int .i64 64)).run Tryd.prog w' = .ok (.slice (some ⟨w'.heap.size, 0, none⟩) 64 64) (w'.alloc (.cells (Lib.byteCells (List.replicate 64 0)).toArray 5)) := fun _ => by kernel_rfl
  have HR := Lib.hid hR
  have HM := Lib.hid hm
  have hl : s.data.toList.length = s.size := by simp
  have hcp := Lib.run_copy_row_string (P := Tryd.prog) (w.alloc (.cells (Lib.byteCells (List.replicate 64 0)).toArray 5)) 85 9 3 5 w.heap.size 0 64 64 s (Lib.byteCells (List.replicate 64 0)).toArray 5 Tryd.underlying85 (by kernel_rfl) (heap_alloc_new w _) (by omega) (by simp [Lib.byteCells]; omega)
  have hrow : ((Lib.byteCells (List.replicate 64 0)).toArray.toList.take 0 ++ Lib.byteCells s.data.toList ++ (Lib.byteCells (List.replicate 64 0)).toArray.toList.drop (0 + s.size)) = Lib.byteCells (s.data.toList ++ List.replicate (64 - s.size) 0) := by
    simp only [List.take_zero, List.nil_append, Nat.zero_add, Lib.byteCells, List.map_append, List.map_replicate, List.drop_replicate]
  rw [hrow, setRow_alloc] at hcp
  have HCP := Lib.hid hcp
  have HE0 : Hid ((s.data.toList ++ List.replicate (64 - s.size) 0).set s.size 128 = endTo s.data.toList c 64 0) := by show _ = _; rw [endTo, hl]
  have HEL : Hid (∀ i, (endTo s.data.toList c 64 i).length = 64) := fun i => endTo_len (by omega) i
  have HST : Hid (∀ i, endTo s.data.toList c 64 (i + 1) = (endTo s.data.toList c 64 i).set (63 - i) (byteOf c i)) := fun i => rfl
  clear hcp hrow hR hm
  go_enter Tryd.func102, Tryd.ntmps102
  go_upto_region 6 with (refine wpList_copy_runW _ rfl (.tmp 14) (.tmp 15) 85 9 rfl (.slice (some ⟨w.heap.size, 0, none⟩) 64 64) (.string s) rfl rfl HCP.out ?_)
  go_frame
  have OT : Hid (Own (w.alloc (.cells (Lib.byteCells (s.data.toList ++ List.replicate (64 - s.size) 0)).toArray 5)) w.heap.size 5 (Lib.byteCells (s.data.toList ++ List.replicate (64 - s.size) 0))) := Own.new w _ _
  have K : Kept w (w.alloc (.cells (Lib.byteCells (s.data.toList ++ List.replicate (64 - s.size) 0)).toArray 5)) := (Kept.refl w).alloc _
  generalize (w.alloc (.cells (Lib.byteCells (s.data.toList ++ List.replicate (64 - s.size) 0)).toArray 5)) = w1 at *
  have hl0 : (Lib.byteCells (s.data.toList ++ List.replicate (64 - s.size) 0)).length = 64 := by simp [Lib.byteCells]; omega
  obtain ⟨old, ho⟩ : ∃ v, w1.cell? ⟨w.heap.size, s.size, none⟩ = some v := ⟨_, OT.out.cell (by rw [hl0]; exact hle)⟩
  have hf := OT.out.frozen s.size
  have b0 : (0 : Int) ≤ (s.size : Int) := by omega
  have b1 : (s.size : Int) < 64 := by omega
  clear hl0 hl
  go_wp2
  go_loopw [21] (fun iv wq => ∃ i : Nat, i ≤ 8 ∧ iv = .int .i64 i ∧ Own wq w.heap.size 5 (Lib.byteCells (endTo s.data.toList c 64 i)) ∧ Kept w wq) (fun iv _ => 8 - (intOf iv).toNat)
  case atStart =>
    refine ⟨0, Nat.zero_le _, rfl, ?_, K.setCell (Nat.le_refl _) _⟩
    rw [← HE0.out, bc_set]
    exact OT.out.set_ s.size _
  case round =>
    clear OT K ho hf b0 b1
    obtain ⟨i, hi, rfl, ot, K⟩ := hrel
    have OT := Lib.hid ot
    by_cases hlt : i < 8
    · obtain ⟨old2, ho⟩ : ∃ v, wr.cell? ⟨w.heap.size, 63 - i, none⟩ = some v := ⟨_, ot.cell (by rw [Lib.byteCells, List.length_map, HEL.out]; omega)⟩
      have hf := ot.frozen (63 - i)
      clear ot
      have i0 : (0 : Int) ≤ (i : Int) := by omega
      have i1 : (i : Int) < 8 := by omega
      have i3 : (0 : Int) ≤ 8 * (i : Int) := by omega
      have q1 : IntKind.i64.wrap (8 * (i : Int)) = 8 * (i : Int) := IntWalk.i64_in _ (by omega)
      have q2 : IntKind.i64.wrap (63 - (i : Int)) = 63 - (i : Int) := IntWalk.i64_in _ (by omega)
      have q3 : (63 - (i : Int)).toNat = 63 - i := by omega
      have q4 : (0 : Int) ≤ 63 - (i : Int) := by omega
      have q5 : (i : Int) ≤ 63 := by omega
      have q6 : 63 - (i : Int) < 64 := by omega
      have q7 : min (8 * (i : Int)).toNat IntKind.u64.bits = 8 * i := by show min _ 64 = _; omega
      go_wp2
      go_roundw
      case rel =>
        rw [byte_of]
        refine ⟨i + 1, by omega, by go_num, ?_, K.setCell (Nat.le_refl _) _⟩
        rw [HST.out, bc_set]
        exact OT.out.set_ (63 - i) _
      case measure => simp [intOf]; omega
    · obtain rfl : i = m := by rw [HM.out]; omega
      clear ot
      rw [HR.out] at OT
      have hRl : R.length = 64 := by rw [← HR.out]; exact HEL.out _
      have hcv := run_convert_bytes_back (P := Tryd.prog) wr 85 9 5 ⟨w.heap.size, 0, none⟩ 64 R Tryd.underlying85 Tryd.underlying5 Tryd.underlying9 (fun j hj => by
        rw [Addr.add_mid, Nat.zero_add, OT.out.cell?, bc_at hj])
      rw [hRl] at hcv
      go_wp2
      go_ret
      exact ⟨rfl, K⟩
set_option maxRecDepth 100000 in
set_option maxHeartbeats 2000000 in
theorem ending_128 (s : ByteArray) (c : Nat) (w : World) (hs : s.size < 64) (h9 : (64 : Int) < (s.size : Int) + 9) (hle : s.size < 128) (R : List UInt8) (m : Nat) (hm : m = 8) (hR : endTo s.data.toList c 128 m = R) :
    Calls Tryd.prog 102 #[.string s, .int .u64 (c : Int)] w fun e w' => e = .returned (.string ⟨R.toArray⟩) ∧ Kept w w' := by
  have hmk : ∀ w' : World, (Instr.makeSlice 85 (.int .i64 128) (.int .i64 128)).run Tryd.prog w' = .ok (.slice (some ⟨w'.heap.size, 0, none⟩) 128 128) (w'.alloc (.cells (Lib.byteCells (List.replicate 128 0)).toArray 5)) := fun _ => by kernel_rfl
  have HR := Lib.hid hR
  have HM := Lib.hid hm
  have hl : s.data.toList.length = s.size := by simp
  have hcp := Lib.run_copy_row_string (P := Tryd.prog) (w.alloc (.cells (Lib.byteCells (List.replicate 128 0)).toArray 5)) 85 9 3 5 w.heap.size 0 128 128 s (Lib.byteCells (List.replicate 128 0)).toArray 5 Tryd.underlying85 (by kernel_rfl) (heap_alloc_new w _) (by omega) (by simp [Lib.byteCells]; omega)
  have hrow : ((Lib.byteCells (List.replicate 128 0)).toArray.toList.take 0 ++ Lib.byteCells s.data.toList ++ (Lib.byteCells (List.replicate 128 0)).toArray.toList.drop (0 + s.size)) = Lib.byteCells (s.data.toList ++ List.replicate (128 - s.size) 0) := by
    simp only [List.take_zero, List.nil_append, Nat.zero_add, Lib.byteCells, List.map_append, List.map_replicate, List.drop_replicate]
  rw [hrow, setRow_alloc] at hcp
  have HCP := Lib.hid hcp
  have HE0 : Hid ((s.data.toList ++ List.replicate (128 - s.size) 0).set s.size 128 = endTo s.data.toList c 128 0) := by show _ = _; rw [endTo, hl]
  have HEL : Hid (∀ i, (endTo s.data.toList c 128 i).length = 128) := fun i => endTo_len (by omega) i
  have HST : Hid (∀ i, endTo s.data.toList c 128 (i + 1) = (endTo s.data.toList c 128 i).set (127 - i) (byteOf c i)) := fun i => rfl
  clear hcp hrow hR hm
  go_enter Tryd.func102, Tryd.ntmps102
  go_upto_region 6 with (refine wpList_copy_runW _ rfl (.tmp 14) (.tmp 15) 85 9 rfl (.slice (some ⟨w.heap.size, 0, none⟩) 128 128) (.string s) rfl rfl HCP.out ?_)
  go_frame
  have OT : Hid (Own (w.alloc (.cells (Lib.byteCells (s.data.toList ++ List.replicate (128 - s.size) 0)).toArray 5)) w.heap.size 5 (Lib.byteCells (s.data.toList ++ List.replicate (128 - s.size) 0))) := Own.new w _ _
  have K : Kept w (w.alloc (.cells (Lib.byteCells (s.data.toList ++ List.replicate (128 - s.size) 0)).toArray 5)) := (Kept.refl w).alloc _
  generalize (w.alloc (.cells (Lib.byteCells (s.data.toList ++ List.replicate (128 - s.size) 0)).toArray 5)) = w1 at *
  have hl0 : (Lib.byteCells (s.data.toList ++ List.replicate (128 - s.size) 0)).length = 128 := by simp [Lib.byteCells]; omega
  obtain ⟨old, ho⟩ : ∃ v, w1.cell? ⟨w.heap.size, s.size, none⟩ = some v := ⟨_, OT.out.cell (by rw [hl0]; exact hle)⟩
  have hf := OT.out.frozen s.size
  have b0 : (0 : Int) ≤ (s.size : Int) := by omega
  have b1 : (s.size : Int) < 128 := by omega
  clear hl0 hl
  go_wp2
  go_loopw [21] (fun iv wq => ∃ i : Nat, i ≤ 8 ∧ iv = .int .i64 i ∧ Own wq w.heap.size 5 (Lib.byteCells (endTo s.data.toList c 128 i)) ∧ Kept w wq) (fun iv _ => 8 - (intOf iv).toNat)
  case atStart =>
    refine ⟨0, Nat.zero_le _, rfl, ?_, K.setCell (Nat.le_refl _) _⟩
    rw [← HE0.out, bc_set]
    exact OT.out.set_ s.size _
  case round =>
    clear OT K ho hf b0 b1
    obtain ⟨i, hi, rfl, ot, K⟩ := hrel
    have OT := Lib.hid ot
    by_cases hlt : i < 8
    · obtain ⟨old2, ho⟩ : ∃ v, wr.cell? ⟨w.heap.size, 127 - i, none⟩ = some v := ⟨_, ot.cell (by rw [Lib.byteCells, List.length_map, HEL.out]; omega)⟩
      have hf := ot.frozen (127 - i)
      clear ot
      have i0 : (0 : Int) ≤ (i : Int) := by omega
      have i1 : (i : Int) < 8 := by omega
      have i3 : (0 : Int) ≤ 8 * (i : Int) := by omega
      have q1 : IntKind.i64.wrap (8 * (i : Int)) = 8 * (i : Int) := IntWalk.i64_in _ (by omega)
      have q2 : IntKind.i64.wrap (127 - (i : Int)) = 127 - (i : Int) := IntWalk.i64_in _ (by omega)
      have q3 : (127 - (i : Int)).toNat = 127 - i := by omega
      have q4 : (0 : Int) ≤ 127 - (i : Int) := by omega
      have q5 : (i : Int) ≤ 127 := by omega
      have q6 : 127 - (i : Int) < 128 := by omega
      have q7 : min (8 * (i : Int)).toNat IntKind.u64.bits = 8 * i := by show min _ 64 = _; omega
      go_wp2
      go_roundw
      case rel =>
        rw [byte_of]
        refine ⟨i + 1, by omega, by go_num, ?_, K.setCell (Nat.le_refl _) _⟩
        rw [HST.out, bc_set]
        exact OT.out.set_ (127 - i) _
      case measure => simp [intOf]; omega
    · obtain rfl : i = m := by rw [HM.out]; omega
      clear ot
      rw [HR.out] at OT
      have hRl : R.length = 128 := by rw [← HR.out]; exact HEL.out _
      have hcv := run_convert_bytes_back (P := Tryd.prog) wr 85 9 5 ⟨w.heap.size, 0, none⟩ 128 R Tryd.underlying85 Tryd.underlying5 Tryd.underlying9 (fun j hj => by
        rw [Addr.add_mid, Nat.zero_add, OT.out.cell?, bc_at hj])
      rw [hRl] at hcv
      go_wp2
      go_ret
      exact ⟨rfl, K⟩
end Go.Proofs.YtagpimahicgkmaaDoor

/-! Walk: sha.Sum. -/
namespace Go.Proofs.YtagpimahicgkmaaDoor
open Go.RowKit

def blocksTo (s : ByteArray) (st : St) : Nat → St
  | 0 => st
  | k + 1 => blockSt (blocksTo s st k) (s.extract (64 * k) (64 * k + 64))
def tailS (r : ByteArray) (c : Nat) : ByteArray := if 64 < r.size + 9 then ⟨(endTo r.data.toList c 128 8).toArray⟩ else ⟨(endTo r.data.toList c 64 8).toArray⟩
def sumSt (s : ByteArray) : St := blocksTo (tailS (s.extract (64 * (s.size / 64)) s.size) (s.size * 8)) (blocksTo s st0 (s.size / 64)) ((tailS (s.extract (64 * (s.size / 64)) s.size) (s.size * 8)).size / 64)
def stL (s : St) : List UInt32 := [s.a, s.b, s.c, s.d, s.e, s.f, s.g, s.h]
def be4 (x : UInt32) : List UInt8 := [(x >>> 24).toUInt8, (x >>> 16).toUInt8, (x >>> 8).toUInt8, x.toUInt8]
def digTo (s : St) (k : Nat) : List UInt8 := ((stL s).take k).flatMap be4
/-- The digest. -/
def shaS (s : ByteArray) : ByteArray := ⟨(digTo (sumSt s) 8).toArray⟩
theorem digTo_len (s : St) (k : Nat) (h : k ≤ 8) : (digTo s k).length = 4 * k := by
  unfold digTo
  have : ∀ l : List UInt32, (l.flatMap be4).length = 4 * l.length := fun l => by
    induction l with
    | nil => rfl
    | cons a l ih => rw [List.flatMap_cons, List.length_append, ih, List.length_cons]; simp [be4]; omega
  rw [this, List.length_take]
  simp [stL]; omega
theorem shaS_size (s : ByteArray) : (shaS s).size = 32 := by
  show (digTo (sumSt s) 8).toArray.size = 32
  rw [List.size_toArray, digTo_len _ _ (by omega)]
theorem tailS_size {r : ByteArray} {c : Nat} (h : r.size < 64) : (tailS r c).size = if 64 < r.size + 9 then 128 else 64 := by
  unfold tailS
  have hl : r.data.toList.length = r.size := by simp
  split
  · show (endTo _ _ _ _).toArray.size = 128
    rw [List.size_toArray, endTo_len (by omega)]
  · show (endTo _ _ _ _).toArray.size = 64
    rw [List.size_toArray, endTo_len (by omega)]
theorem ending_any (s : ByteArray) (c : Nat) (w : World) (hs : s.size < 64) :
    Calls Tryd.prog 102 #[.string s, .int .u64 (c : Int)] w fun e w' => e = .returned (.string (tailS s c)) ∧ Kept w w' := by
  unfold tailS
  by_cases h : 64 < s.size + 9
  · rw [if_pos h]
    exact ending_128 s c w hs (by omega) (by omega) _ 8 rfl rfl
  · rw [if_neg h]
    exact ending_64 s c w hs (by omega) (by omega) _ 8 rfl rfl
theorem ext_head {s : ByteArray} {a b : Nat} (h : a + 64 ≤ b) (hb : b ≤ s.size) : (s.extract a b).extract 0 64 = s.extract a (a + 64) := by
  apply ByteArray.ext
  simp only [ByteArray.data_extract, Array.extract_extract]
  congr 1; omega
theorem ext_rest {s : ByteArray} {a b : Nat} (h : a + 64 ≤ b) (hb : b ≤ s.size) : (s.extract a b).extract 64 (s.extract a b).size = s.extract (a + 64) b := by
  apply ByteArray.ext
  simp only [ByteArray.data_extract, Array.extract_extract, ByteArray.size_extract]
  congr 1; omega
theorem byte24 (x : UInt32) : (x.toNat : Int) / (16777216 : Int) % (256 : Int) = ((x >>> 24).toUInt8.toNat : Int) := by
  have h : (x.toNat : Int) / (16777216 : Int) = ((x >>> 24).toNat : Int) := ushr x 24 (by decide)
  rw [UInt32.toNat_toUInt8, h]; omega
theorem byte16 (x : UInt32) : (x.toNat : Int) / (65536 : Int) % (256 : Int) = ((x >>> 16).toUInt8.toNat : Int) := by
  have h : (x.toNat : Int) / (65536 : Int) = ((x >>> 16).toNat : Int) := ushr x 16 (by decide)
  rw [UInt32.toNat_toUInt8, h]; omega
theorem byte8 (x : UInt32) : (x.toNat : Int) / (256 : Int) % (256 : Int) = ((x >>> 8).toUInt8.toNat : Int) := by
  have h : (x.toNat : Int) / (256 : Int) = ((x >>> 8).toNat : Int) := ushr x 8 (by decide)
  rw [UInt32.toNat_toUInt8, h]; omega
theorem byte0 (x : UInt32) : (x.toNat : Int) % (256 : Int) = (x.toUInt8.toNat : Int) := by
  rw [UInt32.toNat_toUInt8]; omega
def stv8 (s : St) : Array Value := #[u32v s.a, u32v s.b, u32v s.c, u32v s.d, u32v s.e, u32v s.f, u32v s.g, u32v s.h]
def bc1 (b : UInt8) : List Value := [.int .u8 (b.toNat : Int)]
theorem bc_flat (l : List UInt8) : l.flatMap bc1 = Lib.byteCells l := by
  induction l with
  | nil => rfl
  | cons a l ih => rw [List.flatMap_cons, ih]; rfl
theorem Tryd.elU : Elem Tryd.prog 85 5 1 1 bc1 :=
  Elem.of (z := .int .u8 0) (by kernel_rfl) (by kernel_rfl) rfl (by omega) (fun _ => rfl)
theorem bc_one (l : List UInt8) : ∀ u ∈ l.flatMap bc1, u.oneCell' = true := by
  intro u hu
  obtain ⟨b, _, hb⟩ := List.mem_flatMap.1 hu
  rw [List.mem_singleton.1 hb]; rfl
theorem wv_stL (s : St) : wv (stL s) = stv s := rfl
set_option maxRecDepth 100000 in
set_option maxHeartbeats 4000000 in
theorem sum_n (s tl : ByteArray) (sa sb : St) (n m : Nat) (F G : Nat → St) (w : World) (ht : Tabs w) (hs : s.size ≤ 1000000) (hn : s.size / 64 = n) (hF0 : F 0 = st0) (hF : F n = sa) (hFs : ∀ k, F (k + 1) = blockSt (F k) (s.extract (64 * k) (64 * k + 64)))
    (htl : tailS (s.extract (64 * n) s.size) (s.size * 8) = tl) (htn : tl.size = 64 * m) (htm : m ≤ 2) (hG0 : G 0 = sa) (hG : G m = sb) (hGs : ∀ k, G (k + 1) = blockSt (G k) (tl.extract (64 * k) (64 * k + 64))) (D : Nat → List UInt8) (q : Nat) (hq : q = 8) (hD0 : D 0 = []) (hD : ∀ j, j < 8 → D j ++ be4 (at32 (stL sb) j) = D (j + 1)) (hDL : ∀ j, j ≤ 8 → (D j).length = 4 * j) :
    Calls Tryd.prog 80 #[.string s] w fun e w' => e = .returned (.string ⟨(D q).toArray⟩) ∧ Kept w w' := by
  have HT := Lib.hid ht
  have HF0 := Lib.hid hF0
  have HF := Lib.hid hF
  have HFS := Lib.hid hFs
  have HTL := Lib.hid htl
  have HTN := Lib.hid htn
  have HG0 := Lib.hid hG0
  have HG := Lib.hid hG
  have HGS := Lib.hid hGs
  have HQ := Lib.hid hq
  have HD0 := Lib.hid hD0
  have HD := Lib.hid hD
  have HDL := Lib.hid hDL
  have HN : Hid (64 * n ≤ s.size ∧ s.size < 64 * n + 64) := by show _ ∧ _; omega
  have i0 : w.cell? ⟨0, 0, none⟩ = some (u32v st0.a) := ht.ini.cell? 0
  have i1 : w.cell? ⟨0, 1, none⟩ = some (u32v st0.b) := ht.ini.cell? 1
  have i2 : w.cell? ⟨0, 2, none⟩ = some (u32v st0.c) := ht.ini.cell? 2
  have i3 : w.cell? ⟨0, 3, none⟩ = some (u32v st0.d) := ht.ini.cell? 3
  have i4 : w.cell? ⟨0, 4, none⟩ = some (u32v st0.e) := ht.ini.cell? 4
  have i5 : w.cell? ⟨0, 5, none⟩ = some (u32v st0.f) := ht.ini.cell? 5
  have i6 : w.cell? ⟨0, 6, none⟩ = some (u32v st0.g) := ht.ini.cell? 6
  have i7 : w.cell? ⟨0, 7, none⟩ = some (u32v st0.h) := ht.ini.cell? 7
  clear ht hF0 hF hFs htl htn hG0 hG hGs hq hD0 hD hDL hn
  go_enter Tryd.func80, Tryd.ntmps80
  go_wp2
  clear i0 i1 i2 i3 i4 i5 i6 i7
  have OS : Hid (Own (w.alloc (.cells (stv8 st0) 164)) w.heap.size 164 (stv (F 0))) := by
    rw [HF0.out]; exact Own.new w _ (stv st0)
  have K : Kept w (w.alloc (.cells (stv8 st0) 164)) := (Kept.refl w).alloc _
  unfold stv8 at OS K
  generalize (w.alloc (.cells #[u32v st0.a, u32v st0.b, u32v st0.c, u32v st0.d, u32v st0.e, u32v st0.f, u32v st0.g, u32v st0.h] 164)) = w1 at *
  go_loopw [4] (fun rv wq => ∃ (k : Nat) (r : ByteArray), k ≤ n ∧ Hid (r = s.extract (64 * k) s.size) ∧ rv = .string r ∧ Own wq w.heap.size 164 (stv (F k)) ∧ Kept w wq) (fun rv _ => match rv with | .string r => r.size | _ => 0)
  case atStart => exact ⟨0, s, Nat.zero_le _, by show _ = _; apply ByteArray.ext; simp, rfl, OS.out, K⟩
  case round =>
    clear OS K
    obtain ⟨k, r, hk, HRR, rfl, os, K⟩ := hrel
    have OS := Lib.hid os
    clear os
    have hrs : r.size = s.size - 64 * k := by rw [HRR.out, ByteArray.size_extract]; omega
    by_cases hlt : k < n
    · have h64 : (64 : Int) ≤ (r.size : Int) := by have := HN.out; omega
      have HE1 : Hid (r.extract 0 64 = s.extract (64 * k) (64 * k + 64)) := by show _ = _; rw [HRR.out]; exact ext_head (by have := HN.out; omega) (Nat.le_refl _)
      have HE2 : Hid (r.extract 64 (s.size - 64 * k) = s.extract (64 * (k + 1)) s.size) := by
        show _ = _
        rw [← hrs, HRR.out, ext_rest (by have := HN.out; omega) (Nat.le_refl _)]
        congr 1
      have HS1 := Lib.hid (HFS.out k)
      have HSZ : Hid ((s.extract (64 * k) (64 * k + 64)).size = 64) := by show _ = _; rw [ByteArray.size_extract]; have := HN.out; omega
      have HRS : Hid (64 ≤ r.size) := by show _ ≤ _; omega
      have c0 : wr.cell? ⟨w.heap.size, 0, none⟩ = some (u32v (F k).a) := OS.out.cell? 0
      have c1 : wr.cell? ⟨w.heap.size, 1, none⟩ = some (u32v (F k).b) := OS.out.cell? 1
      have c2 : wr.cell? ⟨w.heap.size, 2, none⟩ = some (u32v (F k).c) := OS.out.cell? 2
      have c3 : wr.cell? ⟨w.heap.size, 3, none⟩ = some (u32v (F k).d) := OS.out.cell? 3
      have c4 : wr.cell? ⟨w.heap.size, 4, none⟩ = some (u32v (F k).e) := OS.out.cell? 4
      have c5 : wr.cell? ⟨w.heap.size, 5, none⟩ = some (u32v (F k).f) := OS.out.cell? 5
      have c6 : wr.cell? ⟨w.heap.size, 6, none⟩ = some (u32v (F k).g) := OS.out.cell? 6
      have c7 : wr.cell? ⟨w.heap.size, 7, none⟩ = some (u32v (F k).h) := OS.out.cell? 7
      have f0 := OS.out.frozen 0
      have f1 := OS.out.frozen 1
      have f2 := OS.out.frozen 2
      have f3 := OS.out.frozen 3
      have f4 := OS.out.frozen 4
      have f5 := OS.out.frozen 5
      have f6 := OS.out.frozen 6
      have f7 := OS.out.frozen 7
      go_upto_region 4 with fail
      refine region_tail 3 (by kernel_rfl) (by kernel_rfl) ?_
      simp only [List.take_succ_cons, List.take_zero, List.drop_succ_cons, List.drop_zero]
      repeat still_step
      refine wpStill_nil ?_
      go_wp2_with fail
      rw [HE1.out]
      refine (block_any _ (F k) _ HSZ.out (HT.out.kept K.drew)).mono ?_
      rintro e w2 ⟨rfl, hk2⟩
      replace hk2 : Kept wr w2 := ((Kept.refl wr).drew).trans hk2
      rw [← HS1.out]
      unfold stv
      replace OS := Lib.hid (OS.out.kept hk2)
      replace K := K.trans hk2
      clear hk2 c0 c1 c2 c3 c4 c5 c6 c7 f0 f1 f2 f3 f4 f5 f6 f7
      have c0 : w2.cell? ⟨w.heap.size, 0, none⟩ = some (u32v (F k).a) := OS.out.cell? 0
      have c1 : w2.cell? ⟨w.heap.size, 1, none⟩ = some (u32v (F k).b) := OS.out.cell? 1
      have c2 : w2.cell? ⟨w.heap.size, 2, none⟩ = some (u32v (F k).c) := OS.out.cell? 2
      have c3 : w2.cell? ⟨w.heap.size, 3, none⟩ = some (u32v (F k).d) := OS.out.cell? 3
      have c4 : w2.cell? ⟨w.heap.size, 4, none⟩ = some (u32v (F k).e) := OS.out.cell? 4
      have c5 : w2.cell? ⟨w.heap.size, 5, none⟩ = some (u32v (F k).f) := OS.out.cell? 5
      have c6 : w2.cell? ⟨w.heap.size, 6, none⟩ = some (u32v (F k).g) := OS.out.cell? 6
      have c7 : w2.cell? ⟨w.heap.size, 7, none⟩ = some (u32v (F k).h) := OS.out.cell? 7
      have f0 := OS.out.frozen 0
      have f1 := OS.out.frozen 1
      have f2 := OS.out.frozen 2
      have f3 := OS.out.frozen 3
      have f4 := OS.out.frozen 4
      have f5 := OS.out.frozen 5
      have f6 := OS.out.frozen 6
      have f7 := OS.out.frozen 7
      go_wp2
      go_roundw
      case rel => exact ⟨k + 1, r.extract 64 (s.size - 64 * k), by omega, HE2, rfl, ((((((((OS.out.set_ 0 (u32v (F (k + 1)).a)).set_ 1 (u32v (F (k + 1)).b)).set_ 2 (u32v (F (k + 1)).c)).set_ 3 (u32v (F (k + 1)).d)).set_ 4 (u32v (F (k + 1)).e)).set_ 5 (u32v (F (k + 1)).f)).set_ 6 (u32v (F (k + 1)).g)).set_ 7 (u32v (F (k + 1)).h)), ((((((((K.setCell (p := ⟨w.heap.size, 0, none⟩) (Nat.le_refl _) (u32v (F (k + 1)).a)).setCell (p := ⟨w.heap.size, 1, none⟩) (Nat.le_refl _) (u32v (F (k + 1)).b)).setCell (p := ⟨w.heap.size, 2, none⟩) (Nat.le_refl _) (u32v (F (k + 1)).c)).setCell (p := ⟨w.heap.size, 3, none⟩) (Nat.le_refl _) (u32v (F (k + 1)).d)).setCell (p := ⟨w.heap.size, 4, none⟩) (Nat.le_refl _) (u32v (F (k + 1)).e)).setCell (p := ⟨w.heap.size, 5, none⟩) (Nat.le_refl _) (u32v (F (k + 1)).f)).setCell (p := ⟨w.heap.size, 6, none⟩) (Nat.le_refl _) (u32v (F (k + 1)).g)).setCell (p := ⟨w.heap.size, 7, none⟩) (Nat.le_refl _) (u32v (F (k + 1)).h))⟩
      case measure => show (r.extract 64 (s.size - 64 * k)).size < r.size; rw [ByteArray.size_extract]; have := HRS.out; omega
    · obtain rfl : k = n := by omega
      have hr64 : ¬ (64 : Int) ≤ (r.size : Int) := by have := HN.out; omega
      have hsz : (s.size : Int) ≤ 1000000 := by omega
      have HE := ending_any r (s.size * 8) wr (by have := HN.out; omega)
      rw [show ((s.size * 8 : Nat) : Int) = (s.size : Int) * 8 by omega, HRR.out, HTL.out, ← HRR.out] at HE
      replace HE := Lib.hid HE
      go_wp2_with fail
      refine HE.out.mono ?_
      rintro e w2 ⟨rfl, hk2⟩
      replace OS := Lib.hid (OS.out.kept hk2)
      replace K := K.trans hk2
      rw [HF.out, ← HG0.out] at OS
      clear hk2 hr64 hsz HE HRR hrs hlt
      go_wp2
      go_loopw [5] (fun rv wq => ∃ (k : Nat) (r : ByteArray), k ≤ m ∧ Hid (r = tl.extract (64 * k) tl.size) ∧ rv = .string r ∧ Own wq w.heap.size 164 (stv (G k)) ∧ Kept w wq) (fun rv _ => match rv with | .string r => r.size | _ => 0)
      case atStart => exact ⟨0, tl, Nat.zero_le _, by show _ = _; apply ByteArray.ext; simp, rfl, OS.out, K⟩
      case round =>
        clear OS K
        obtain ⟨k, r, hk, HRR, rfl, os, K⟩ := hrel
        have OS := Lib.hid os
        clear os
        have hrs : r.size = tl.size - 64 * k := by rw [HRR.out, ByteArray.size_extract]; omega
        by_cases hlt : k < m
        · have h64 : (64 : Int) ≤ (r.size : Int) := by have := HTN.out; omega
          have HE1 : Hid (r.extract 0 64 = tl.extract (64 * k) (64 * k + 64)) := by show _ = _; rw [HRR.out]; exact ext_head (by have := HTN.out; omega) (Nat.le_refl _)
          have HE2 : Hid (r.extract 64 (tl.size - 64 * k) = tl.extract (64 * (k + 1)) tl.size) := by
            show _ = _
            rw [← hrs, HRR.out, ext_rest (by have := HTN.out; omega) (Nat.le_refl _)]
            congr 1
          have HS1 := Lib.hid (HGS.out k)
          have HSZ : Hid ((tl.extract (64 * k) (64 * k + 64)).size = 64) := by show _ = _; rw [ByteArray.size_extract]; have := HTN.out; omega
          have HRS : Hid (64 ≤ r.size) := by show _ ≤ _; omega
          have c0 : wr.cell? ⟨w.heap.size, 0, none⟩ = some (u32v (G k).a) := OS.out.cell? 0
          have c1 : wr.cell? ⟨w.heap.size, 1, none⟩ = some (u32v (G k).b) := OS.out.cell? 1
          have c2 : wr.cell? ⟨w.heap.size, 2, none⟩ = some (u32v (G k).c) := OS.out.cell? 2
          have c3 : wr.cell? ⟨w.heap.size, 3, none⟩ = some (u32v (G k).d) := OS.out.cell? 3
          have c4 : wr.cell? ⟨w.heap.size, 4, none⟩ = some (u32v (G k).e) := OS.out.cell? 4
          have c5 : wr.cell? ⟨w.heap.size, 5, none⟩ = some (u32v (G k).f) := OS.out.cell? 5
          have c6 : wr.cell? ⟨w.heap.size, 6, none⟩ = some (u32v (G k).g) := OS.out.cell? 6
          have c7 : wr.cell? ⟨w.heap.size, 7, none⟩ = some (u32v (G k).h) := OS.out.cell? 7
          have f0 := OS.out.frozen 0
          have f1 := OS.out.frozen 1
          have f2 := OS.out.frozen 2
          have f3 := OS.out.frozen 3
          have f4 := OS.out.frozen 4
          have f5 := OS.out.frozen 5
          have f6 := OS.out.frozen 6
          have f7 := OS.out.frozen 7
          go_upto_region 8 with fail
          refine region_tail 3 (by kernel_rfl) (by kernel_rfl) ?_
          simp only [List.take_succ_cons, List.take_zero, List.drop_succ_cons, List.drop_zero]
          repeat still_step
          refine wpStill_nil ?_
          go_wp2_with fail
          rw [HE1.out]
          refine (block_any _ (G k) _ HSZ.out (HT.out.kept K.drew)).mono ?_
          rintro e w2 ⟨rfl, hk2⟩
          replace hk2 : Kept wr w2 := ((Kept.refl wr).drew).trans hk2
          rw [← HS1.out]
          unfold stv
          replace OS := Lib.hid (OS.out.kept hk2)
          replace K := K.trans hk2
          clear hk2 c0 c1 c2 c3 c4 c5 c6 c7 f0 f1 f2 f3 f4 f5 f6 f7
          have c0 : w2.cell? ⟨w.heap.size, 0, none⟩ = some (u32v (G k).a) := OS.out.cell? 0
          have c1 : w2.cell? ⟨w.heap.size, 1, none⟩ = some (u32v (G k).b) := OS.out.cell? 1
          have c2 : w2.cell? ⟨w.heap.size, 2, none⟩ = some (u32v (G k).c) := OS.out.cell? 2
          have c3 : w2.cell? ⟨w.heap.size, 3, none⟩ = some (u32v (G k).d) := OS.out.cell? 3
          have c4 : w2.cell? ⟨w.heap.size, 4, none⟩ = some (u32v (G k).e) := OS.out.cell? 4
          have c5 : w2.cell? ⟨w.heap.size, 5, none⟩ = some (u32v (G k).f) := OS.out.cell? 5
          have c6 : w2.cell? ⟨w.heap.size, 6, none⟩ = some (u32v (G k).g) := OS.out.cell? 6
          have c7 : w2.cell? ⟨w.heap.size, 7, none⟩ = some (u32v (G k).h) := OS.out.cell? 7
          have f0 := OS.out.frozen 0
          have f1 := OS.out.frozen 1
          have f2 := OS.out.frozen 2
          have f3 := OS.out.frozen 3
          have f4 := OS.out.frozen 4
          have f5 := OS.out.frozen 5
          have f6 := OS.out.frozen 6
          have f7 := OS.out.frozen 7
          go_wp2
          go_roundw
          case rel => exact ⟨k + 1, r.extract 64 (tl.size - 64 * k), by omega, HE2, rfl, ((((((((OS.out.set_ 0 (u32v (G (k + 1)).a)).set_ 1 (u32v (G (k + 1)).b)).set_ 2 (u32v (G (k + 1)).c)).set_ 3 (u32v (G (k + 1)).d)).set_ 4 (u32v (G (k + 1)).e)).set_ 5 (u32v (G (k + 1)).f)).set_ 6 (u32v (G (k + 1)).g)).set_ 7 (u32v (G (k + 1)).h)), ((((((((K.setCell (p := ⟨w.heap.size, 0, none⟩) (Nat.le_refl _) (u32v (G (k + 1)).a)).setCell (p := ⟨w.heap.size, 1, none⟩) (Nat.le_refl _) (u32v (G (k + 1)).b)).setCell (p := ⟨w.heap.size, 2, none⟩) (Nat.le_refl _) (u32v (G (k + 1)).c)).setCell (p := ⟨w.heap.size, 3, none⟩) (Nat.le_refl _) (u32v (G (k + 1)).d)).setCell (p := ⟨w.heap.size, 4, none⟩) (Nat.le_refl _) (u32v (G (k + 1)).e)).setCell (p := ⟨w.heap.size, 5, none⟩) (Nat.le_refl _) (u32v (G (k + 1)).f)).setCell (p := ⟨w.heap.size, 6, none⟩) (Nat.le_refl _) (u32v (G (k + 1)).g)).setCell (p := ⟨w.heap.size, 7, none⟩) (Nat.le_refl _) (u32v (G (k + 1)).h))⟩
          case measure => show (r.extract 64 (tl.size - 64 * k)).size < r.size; rw [ByteArray.size_extract]; have := HRS.out; omega
        · obtain rfl : k = m := by omega
          have hr64 : ¬ (64 : Int) ≤ (r.size : Int) := by have := HTN.out; omega
          rw [HG.out] at OS
          clear hrs
          have c0 : wr.cell? ⟨w.heap.size, 0, none⟩ = some (u32v sb.a) := OS.out.cell? 0
          have c1 : wr.cell? ⟨w.heap.size, 1, none⟩ = some (u32v sb.b) := OS.out.cell? 1
          have c2 : wr.cell? ⟨w.heap.size, 2, none⟩ = some (u32v sb.c) := OS.out.cell? 2
          have c3 : wr.cell? ⟨w.heap.size, 3, none⟩ = some (u32v sb.d) := OS.out.cell? 3
          have c4 : wr.cell? ⟨w.heap.size, 4, none⟩ = some (u32v sb.e) := OS.out.cell? 4
          have c5 : wr.cell? ⟨w.heap.size, 5, none⟩ = some (u32v sb.f) := OS.out.cell? 5
          have c6 : wr.cell? ⟨w.heap.size, 6, none⟩ = some (u32v sb.g) := OS.out.cell? 6
          have c7 : wr.cell? ⟨w.heap.size, 7, none⟩ = some (u32v sb.h) := OS.out.cell? 7
          have zS := OS.out.lt
          have hmk : ∀ w' : World, (Instr.makeSlice 85 (.int .i64 0) (.int .i64 32)).run Tryd.prog w' = .ok (.slice (some ⟨w'.heap.size, 0, none⟩) 0 32) (w'.alloc (.cells (Lib.byteCells (List.replicate 32 0)).toArray 5)) := fun _ => by kernel_rfl
          obtain ⟨zs, hzs⟩ : ∃ z : Array Value, (Lib.byteCells (List.replicate 32 0)).toArray = z := ⟨_, rfl⟩
          have HZ : Hid (zs.size = 32) := by show _ = _; rw [← hzs]; simp [Lib.byteCells]
          rw [hzs] at hmk
          clear hzs
          have HOW : Hid ((wr.alloc (.cells zs 5)).ownsRow wr.heap.size 5 1 (.slice (some ⟨wr.heap.size, 0, none⟩) 0 32) (D 0).length ((D 0).flatMap bc1)) := by
            rw [HD0.out]
            exact ⟨rfl, .inr ⟨wr.heap.size, 32, _, rfl, Nat.le_refl _, heap_alloc_new wr _, by simp, by decide, by rw [HZ.out], by simp⟩⟩
          go_wp2
          have K1 := K.alloc (.cells zs 5)
          have hgw : wr.heap.size ≤ (wr.alloc (.cells zs 5)).heap.size := by simp
          generalize (wr.alloc (.cells zs 5)) = w5 at *
          generalize hgb : wr.heap.size = gB at *
          have HGB : Hid (w.heap.size ≤ gB ∧ gB ≤ w5.heap.size) := by show _ ∧ _; exact ⟨by omega, hgw⟩
          clear c0 c1 c2 c3 c4 c5 c6 c7 K OS hgb hgw
          go_loopw [6, 37] (fun ov iv wq => ∃ (j : Nat) (A : Option Addr) (c : Nat), j ≤ 8 ∧ iv = .int .i64 j ∧ ov = .slice A (D j).length c ∧ wq.ownsRow gB 5 1 (.slice A (D j).length c) (D j).length ((D j).flatMap bc1) ∧ Kept w wq ∧ gB ≤ wq.heap.size) (fun _ iv _ => 8 - (intOf iv).toNat)
          case atStart => exact ⟨0, some ⟨gB, 0, none⟩, 32, Nat.zero_le _, rfl, by rw [HD0.out]; rfl, by have := HOW.out; rw [HD0.out] at this ⊢; exact this, K1, HGB.out.2⟩
          case round =>
            clear K1 HOW
            obtain ⟨j, A, c, hj, rfl, rfl, how, K, hgq⟩ := hrel
            have HOW1 := Lib.hid how
            clear how
            by_cases hlt : j < 8
            · have hix := fun w' => run_index_arr (P := Tryd.prog) w' 164 163 8 (stL sb) j Tryd.underlying164 Tryd.isAgg163 Tryd.szU32 hlt hlt
              change ∀ w' : World, (Instr.index 164 (.agg #[u32v sb.a, u32v sb.b, u32v sb.c, u32v sb.d, u32v sb.e, u32v sb.f, u32v sb.g, u32v sb.h]) (.int .i64 (j : Int))).run Tryd.prog w' = .ok (u32v (at32 (stL sb) j)) w' at hix
              have HJ := Lib.hid (HD.out j hlt)
              have HL1 := Lib.hid (HDL.out j hj)
              generalize at32 (stL sb) j = x at hix HJ
              have E3 := Lib.hid (byte24 x)
              have E2 := Lib.hid (byte16 x)
              have E1 := Lib.hid (byte8 x)
              have E0 := Lib.hid (byte0 x)
              have hmax : (D j).length + 4 ≤ maxLen := by rw [HL1.out]; unfold maxLen; omega
              have hmax2 : ((D j).length + 4) * 1 ≤ 140737488355328 := by rw [HL1.out]; omega
              go_upto_region 14 with fail
              clear hix
              go_upto_region 15 with (at_builtin; go_must (refine Tryd.elU.wpList_app rfl (.tmp 40) (.tmp 52) rfl gB _ (D j) rfl (HOW1.out.alloc _) [] (some ⟨wr.heap.size, 0, none⟩) 4 (be4 x) rfl (by rw [E3.out, E2.out, E1.out, E0.out]; exact (Own.new wr _ ((be4 x).flatMap bc1)).row (by simp)) (bc_one _) hmax hmax2 (by simp; omega) ?_; intro v3 w3 hown3 hg3 hat3))
              rw [HJ.out] at hown3
              have hgk : ∀ k, (Value.slice A ((D j).length) c).ownBlock = some k → gB ≤ k := fun k hk => (ownBlock_of HOW1.out hk).1
              obtain ⟨A3, c3, rfl, hc3, hm3, hr3⟩ := own_form (V := []) hown3 (by simp)
              have K3 := (K.alloc _).grown hg3 (fun k hk => by have := hgk k hk; have := HGB.out.1; omega)
              have hg5 : gB ≤ w3.heap.size := Nat.le_trans hgq (Nat.le_trans (by simp) hg3.size)
              have HOW3 := Lib.hid hown3
              clear hown3 hg3 hr3 hat3 E3 E2 E1 E0
              go_wp2
              go_roundw
              case rel => exact ⟨j + 1, A3, c3, by omega, by go_num, rfl, HOW3.out, K3, hg5⟩
              case measure => simp [intOf]; omega
            · obtain rfl : j = q := by rw [HQ.out]; omega
              obtain ⟨A3, c3, hA, hc3, hm3, hr3⟩ := own_form (V := []) HOW1.out (by simp)
              injection hA with hA1 hA2 hA3
              subst hA1 hA3
              have hl32 : (D j).length = 32 := by rw [HDL.out j hj]; have := HQ.out; omega
              obtain ⟨b, o, rfl, hb, _, hcl⟩ := hr3 (by rw [Tryd.elU.cells_length]; omega)
              have hcv := run_convert_bytes_back (P := Tryd.prog) wr 85 9 5 ⟨b, o, none⟩ c (D j) Tryd.underlying85 Tryd.underlying5 Tryd.underlying9 (fun i hi => by
                rw [Addr.add_mid]
                exact hcl i _ (by rw [bc_flat]; exact bc_at hi))
              rw [hl32] at hcv
              have hj8 : ¬ (j : Int) < 8 := by omega
              go_wp2
              go_ret
              exact ⟨rfl, K⟩
theorem sum_any (s : ByteArray) (w : World) (ht : Tabs w) (hs : s.size ≤ 1000000) :
    Calls Tryd.prog 80 #[.string s] w fun e w' => e = .returned (.string (shaS s)) ∧ Kept w w' := by
  have hr : (s.extract (64 * (s.size / 64)) s.size).size < 64 := by rw [ByteArray.size_extract]; omega
  have htz := tailS_size (c := s.size * 8) hr
  generalize htl : tailS (s.extract (64 * (s.size / 64)) s.size) (s.size * 8) = tl at htz
  generalize hsa : blocksTo s st0 (s.size / 64) = sa
  generalize hm : tl.size / 64 = m
  generalize hsb : blocksTo tl sa m = sb
  have htm : m ≤ 2 ∧ tl.size = 64 * m := by
    split at htz
    · omega
    · omega
  have he : shaS s = ⟨(digTo sb 8).toArray⟩ := by
    unfold shaS sumSt
    rw [htl, hsa, hm, hsb]
  rw [he]
  generalize hq : (8 : Nat) = q
  refine sum_n s tl sa sb (s.size / 64) m (blocksTo s st0) (blocksTo tl sa) w ht hs rfl rfl hsa (fun _ => rfl) htl htm.2 htm.1 rfl hsb (fun _ => rfl) (digTo sb) q hq.symm rfl (fun j hj => ?_) (fun j hj => digTo_len sb j hj)
  unfold digTo
  rw [List.take_succ_eq_append_getElem (show j < (stL sb).length from hj), List.flatMap_append]
  have e : at32 (stL sb) j = (stL sb)[j]'(show j < (stL sb).length from hj) := by unfold at32; rw [List.getD_eq_getElem?_getD, List.getElem?_eq_getElem (show j < (stL sb).length from hj)]; rfl
  rw [e]; simp
end Go.Proofs.YtagpimahicgkmaaDoor
