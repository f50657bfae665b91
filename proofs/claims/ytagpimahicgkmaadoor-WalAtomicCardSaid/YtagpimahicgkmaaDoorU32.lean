/- Numbers of 32 bits: what the program's operations are on them; bits.RotateLeft32. -/
import Derived.Test.YtagpimahicgkmaaDoorMem
import Derived.Test.YtagpimahicgkmaaDoorProg
import Derived.WalkKit
import Derived.Laws.BitsAllLaws
namespace Go.Proofs.YtagpimahicgkmaaDoor
open Go.RowKit

abbrev u32v (x : UInt32) : Value := .int .u32 (x.toNat : Int)
theorem u32_lt (x : UInt32) : x.toNat < 4294967296 := x.toNat_lt
theorem uand (a b : UInt32) : bits .and .u32 (a.toNat : Int) (b.toNat : Int) = ((a &&& b).toNat : Int) := by
  rw [u32_and_nat _ _ (u32_lt a) (u32_lt b), UInt32.toNat_and]
theorem uor (a b : UInt32) : bits .or .u32 (a.toNat : Int) (b.toNat : Int) = ((a ||| b).toNat : Int) := by
  rw [u32_or_nat _ _ (u32_lt a) (u32_lt b), UInt32.toNat_or]
theorem uxor (a b : UInt32) : bits .xor .u32 (a.toNat : Int) (b.toNat : Int) = ((a ^^^ b).toNat : Int) := by
  rw [u32_xor_nat _ _ (u32_lt a) (u32_lt b), UInt32.toNat_xor]
theorem uadd (a b : UInt32) : ((a.toNat : Int) + (b.toNat : Int)) % 4294967296 = ((a + b).toNat : Int) := by
  rw [UInt32.toNat_add]; omega
theorem uadd3 (a b c : UInt32) : ((a.toNat : Int) + (b.toNat : Int) + (c.toNat : Int)) % 4294967296 = ((a + b + c).toNat : Int) := by
  rw [UInt32.toNat_add, UInt32.toNat_add]; omega
theorem uadd4 (a b c d : UInt32) : ((a.toNat : Int) + (b.toNat : Int) + (c.toNat : Int) + (d.toNat : Int)) % 4294967296 = ((a + b + c + d).toNat : Int) := by
  rw [UInt32.toNat_add, UInt32.toNat_add, UInt32.toNat_add]; omega
theorem uadd5 (a b c d e : UInt32) : ((a.toNat : Int) + (b.toNat : Int) + (c.toNat : Int) + (d.toNat : Int) + (e.toNat : Int)) % 4294967296 = ((a + b + c + d + e).toNat : Int) := by
  rw [UInt32.toNat_add, UInt32.toNat_add, UInt32.toNat_add, UInt32.toNat_add]; omega
theorem unot (a : UInt32) : bits .xor .u32 IntKind.u32.max (a.toNat : Int) = ((~~~a).toNat : Int) := by
  have e : IntKind.u32.max = ((4294967295 : UInt32).toNat : Int) := by rfl
  have e2 : (4294967295 : UInt32) ^^^ a = ~~~a := by
    apply UInt32.eq_of_toBitVec_eq
    rw [UInt32.toBitVec_xor, UInt32.toBitVec_not]
    show BitVec.allOnes 32 ^^^ a.toBitVec = _
    rw [BitVec.allOnes_xor]
  rw [e, uxor, e2]
/-- Turned to the right. -/
def rotr (x r : UInt32) : UInt32 := x <<< (32 - r) ||| x >>> r
theorem ushl (x : UInt32) (n : Nat) (h : n < 32) : IntKind.u32.wrap ((x.toNat : Int) * ((2 ^ n : Nat) : Int)) = ((x <<< UInt32.ofNat n).toNat : Int) := by
  have e : (UInt32.ofNat n).toNat = n := by rw [UInt32.toNat_ofNat']; exact Nat.mod_eq_of_lt (by omega)
  rw [IntKind.wrap_u32', UInt32.toNat_shiftLeft, e, Nat.mod_eq_of_lt h, Nat.shiftLeft_eq, ← Int.natCast_mul]
  generalize x.toNat * 2 ^ n = m
  omega
theorem ushr (x : UInt32) (n : Nat) (h : n < 32) : (x.toNat : Int) / ((2 ^ n : Nat) : Int) = ((x >>> UInt32.ofNat n).toNat : Int) := by
  have e : (UInt32.ofNat n).toNat = n := by rw [UInt32.toNat_ofNat']; exact Nat.mod_eq_of_lt (by omega)
  rw [UInt32.toNat_shiftRight, e, Nat.mod_eq_of_lt h, Nat.shiftRight_eq_div_pow, ← Int.natCast_ediv]
theorem rot2 (x : UInt32) (w : World) : Calls Tryd.prog 126 #[u32v x, .int .i64 (-2)] w fun e w' => e = .returned (u32v (rotr x 2)) ∧ w = w' := by
  have hs : bits .and .u64 (IntKind.u64.wrap (-2)) 31 = 30 := by kernel_rfl
  have he : bits .or .u32 ((x.toNat : Int) * 1073741824 % 4294967296) ((x.toNat : Int) / 4) = ((rotr x 2).toNat : Int) := by
    have h1 : (x.toNat : Int) * 1073741824 % 4294967296 = ((x <<< (30 : UInt32)).toNat : Int) := by have := ushl x 30 (by decide); rw [IntKind.wrap_u32'] at this; exact this
    have h2 : (x.toNat : Int) / 4 = ((x >>> (2 : UInt32)).toNat : Int) := ushr x 2 (by decide)
    rw [h1, h2, uor]; rfl
  go_enter Tryd.func126, Tryd.ntmps126
  go_wp2
  go_ret
  exact ⟨rfl, rfl⟩
theorem rot6 (x : UInt32) (w : World) : Calls Tryd.prog 126 #[u32v x, .int .i64 (-6)] w fun e w' => e = .returned (u32v (rotr x 6)) ∧ w = w' := by
  have hs : bits .and .u64 (IntKind.u64.wrap (-6)) 31 = 26 := by kernel_rfl
  have he : bits .or .u32 ((x.toNat : Int) * 67108864 % 4294967296) ((x.toNat : Int) / 64) = ((rotr x 6).toNat : Int) := by
    have h1 : (x.toNat : Int) * 67108864 % 4294967296 = ((x <<< (26 : UInt32)).toNat : Int) := by have := ushl x 26 (by decide); rw [IntKind.wrap_u32'] at this; exact this
    have h2 : (x.toNat : Int) / 64 = ((x >>> (6 : UInt32)).toNat : Int) := ushr x 6 (by decide)
    rw [h1, h2, uor]; rfl
  go_enter Tryd.func126, Tryd.ntmps126
  go_wp2
  go_ret
  exact ⟨rfl, rfl⟩
theorem rot7 (x : UInt32) (w : World) : Calls Tryd.prog 126 #[u32v x, .int .i64 (-7)] w fun e w' => e = .returned (u32v (rotr x 7)) ∧ w = w' := by
  have hs : bits .and .u64 (IntKind.u64.wrap (-7)) 31 = 25 := by kernel_rfl
  have he : bits .or .u32 ((x.toNat : Int) * 33554432 % 4294967296) ((x.toNat : Int) / 128) = ((rotr x 7).toNat : Int) := by
    have h1 : (x.toNat : Int) * 33554432 % 4294967296 = ((x <<< (25 : UInt32)).toNat : Int) := by have := ushl x 25 (by decide); rw [IntKind.wrap_u32'] at this; exact this
    have h2 : (x.toNat : Int) / 128 = ((x >>> (7 : UInt32)).toNat : Int) := ushr x 7 (by decide)
    rw [h1, h2, uor]; rfl
  go_enter Tryd.func126, Tryd.ntmps126
  go_wp2
  go_ret
  exact ⟨rfl, rfl⟩
theorem rot11 (x : UInt32) (w : World) : Calls Tryd.prog 126 #[u32v x, .int .i64 (-11)] w fun e w' => e = .returned (u32v (rotr x 11)) ∧ w = w' := by
  have hs : bits .and .u64 (IntKind.u64.wrap (-11)) 31 = 21 := by kernel_rfl
  have he : bits .or .u32 ((x.toNat : Int) * 2097152 % 4294967296) ((x.toNat : Int) / 2048) = ((rotr x 11).toNat : Int) := by
    have h1 : (x.toNat : Int) * 2097152 % 4294967296 = ((x <<< (21 : UInt32)).toNat : Int) := by have := ushl x 21 (by decide); rw [IntKind.wrap_u32'] at this; exact this
    have h2 : (x.toNat : Int) / 2048 = ((x >>> (11 : UInt32)).toNat : Int) := ushr x 11 (by decide)
    rw [h1, h2, uor]; rfl
  go_enter Tryd.func126, Tryd.ntmps126
  go_wp2
  go_ret
  exact ⟨rfl, rfl⟩
theorem rot13 (x : UInt32) (w : World) : Calls Tryd.prog 126 #[u32v x, .int .i64 (-13)] w fun e w' => e = .returned (u32v (rotr x 13)) ∧ w = w' := by
  have hs : bits .and .u64 (IntKind.u64.wrap (-13)) 31 = 19 := by kernel_rfl
  have he : bits .or .u32 ((x.toNat : Int) * 524288 % 4294967296) ((x.toNat : Int) / 8192) = ((rotr x 13).toNat : Int) := by
    have h1 : (x.toNat : Int) * 524288 % 4294967296 = ((x <<< (19 : UInt32)).toNat : Int) := by have := ushl x 19 (by decide); rw [IntKind.wrap_u32'] at this; exact this
    have h2 : (x.toNat : Int) / 8192 = ((x >>> (13 : UInt32)).toNat : Int) := ushr x 13 (by decide)
    rw [h1, h2, uor]; rfl
  go_enter Tryd.func126, Tryd.ntmps126
  go_wp2
  go_ret
  exact ⟨rfl, rfl⟩
theorem rot17 (x : UInt32) (w : World) : Calls Tryd.prog 126 #[u32v x, .int .i64 (-17)] w fun e w' => e = .returned (u32v (rotr x 17)) ∧ w = w' := by
  have hs : bits .and .u64 (IntKind.u64.wrap (-17)) 31 = 15 := by kernel_rfl
  have he : bits .or .u32 ((x.toNat : Int) * 32768 % 4294967296) ((x.toNat : Int) / 131072) = ((rotr x 17).toNat : Int) := by
    have h1 : (x.toNat : Int) * 32768 % 4294967296 = ((x <<< (15 : UInt32)).toNat : Int) := by have := ushl x 15 (by decide); rw [IntKind.wrap_u32'] at this; exact this
    have h2 : (x.toNat : Int) / 131072 = ((x >>> (17 : UInt32)).toNat : Int) := ushr x 17 (by decide)
    rw [h1, h2, uor]; rfl
  go_enter Tryd.func126, Tryd.ntmps126
  go_wp2
  go_ret
  exact ⟨rfl, rfl⟩
theorem rot18 (x : UInt32) (w : World) : Calls Tryd.prog 126 #[u32v x, .int .i64 (-18)] w fun e w' => e = .returned (u32v (rotr x 18)) ∧ w = w' := by
  have hs : bits .and .u64 (IntKind.u64.wrap (-18)) 31 = 14 := by kernel_rfl
  have he : bits .or .u32 ((x.toNat : Int) * 16384 % 4294967296) ((x.toNat : Int) / 262144) = ((rotr x 18).toNat : Int) := by
    have h1 : (x.toNat : Int) * 16384 % 4294967296 = ((x <<< (14 : UInt32)).toNat : Int) := by have := ushl x 14 (by decide); rw [IntKind.wrap_u32'] at this; exact this
    have h2 : (x.toNat : Int) / 262144 = ((x >>> (18 : UInt32)).toNat : Int) := ushr x 18 (by decide)
    rw [h1, h2, uor]; rfl
  go_enter Tryd.func126, Tryd.ntmps126
  go_wp2
  go_ret
  exact ⟨rfl, rfl⟩
theorem rot19 (x : UInt32) (w : World) : Calls Tryd.prog 126 #[u32v x, .int .i64 (-19)] w fun e w' => e = .returned (u32v (rotr x 19)) ∧ w = w' := by
  have hs : bits .and .u64 (IntKind.u64.wrap (-19)) 31 = 13 := by kernel_rfl
  have he : bits .or .u32 ((x.toNat : Int) * 8192 % 4294967296) ((x.toNat : Int) / 524288) = ((rotr x 19).toNat : Int) := by
    have h1 : (x.toNat : Int) * 8192 % 4294967296 = ((x <<< (13 : UInt32)).toNat : Int) := by have := ushl x 13 (by decide); rw [IntKind.wrap_u32'] at this; exact this
    have h2 : (x.toNat : Int) / 524288 = ((x >>> (19 : UInt32)).toNat : Int) := ushr x 19 (by decide)
    rw [h1, h2, uor]; rfl
  go_enter Tryd.func126, Tryd.ntmps126
  go_wp2
  go_ret
  exact ⟨rfl, rfl⟩
theorem rot22 (x : UInt32) (w : World) : Calls Tryd.prog 126 #[u32v x, .int .i64 (-22)] w fun e w' => e = .returned (u32v (rotr x 22)) ∧ w = w' := by
  have hs : bits .and .u64 (IntKind.u64.wrap (-22)) 31 = 10 := by kernel_rfl
  have he : bits .or .u32 ((x.toNat : Int) * 1024 % 4294967296) ((x.toNat : Int) / 4194304) = ((rotr x 22).toNat : Int) := by
    have h1 : (x.toNat : Int) * 1024 % 4294967296 = ((x <<< (10 : UInt32)).toNat : Int) := by have := ushl x 10 (by decide); rw [IntKind.wrap_u32'] at this; exact this
    have h2 : (x.toNat : Int) / 4194304 = ((x >>> (22 : UInt32)).toNat : Int) := ushr x 22 (by decide)
    rw [h1, h2, uor]; rfl
  go_enter Tryd.func126, Tryd.ntmps126
  go_wp2
  go_ret
  exact ⟨rfl, rfl⟩
theorem rot25 (x : UInt32) (w : World) : Calls Tryd.prog 126 #[u32v x, .int .i64 (-25)] w fun e w' => e = .returned (u32v (rotr x 25)) ∧ w = w' := by
  have hs : bits .and .u64 (IntKind.u64.wrap (-25)) 31 = 7 := by kernel_rfl
  have he : bits .or .u32 ((x.toNat : Int) * 128 % 4294967296) ((x.toNat : Int) / 33554432) = ((rotr x 25).toNat : Int) := by
    have h1 : (x.toNat : Int) * 128 % 4294967296 = ((x <<< (7 : UInt32)).toNat : Int) := by have := ushl x 7 (by decide); rw [IntKind.wrap_u32'] at this; exact this
    have h2 : (x.toNat : Int) / 33554432 = ((x >>> (25 : UInt32)).toNat : Int) := ushr x 25 (by decide)
    rw [h1, h2, uor]; rfl
  go_enter Tryd.func126, Tryd.ntmps126
  go_wp2
  go_ret
  exact ⟨rfl, rfl⟩
end Go.Proofs.YtagpimahicgkmaaDoor
