/- Walks: mailsackref01.right, at the numbers that it is called with. -/
import Derived.Test.YtagpimahicgkmaaDoorR1P
import Derived.Deep.QuietTactic
import Derived.BigQuiet
namespace Go.Proofs.YtagpimahicgkmaaDoor
open Go.RowKit

theorem rr2 (x : UInt32) (w : World) : Calls Tryd.prog 127 #[u32v x, .int .i64 2] w fun e w' => e = .returned (u32v (rotr x 2)) ∧ Kept w w' := by
  have he : bits .or .u32 ((x.toNat : Int) / 4) ((x.toNat : Int) * 1073741824 % 4294967296) = ((rotr x 2).toNat : Int) := by
    have h1 : (x.toNat : Int) * 1073741824 % 4294967296 = ((x <<< (30 : UInt32)).toNat : Int) := by have := ushl x 30 (by decide); rw [IntKind.wrap_u32'] at this; exact this
    have h2 : (x.toNat : Int) / 4 = ((x >>> (2 : UInt32)).toNat : Int) := ushr x 2 (by decide)
    rw [h1, h2, uor]
    exact congrArg (fun y : UInt32 => (y.toNat : Int)) (rref x 2)
  go_enter Tryd.func127, Tryd.ntmps127
  go_wp2_with fail
  go_quiet (fail)
  go_wp2
  go_ret
  exact ⟨rfl, (Kept.refl w).drewN _⟩
theorem rr6 (x : UInt32) (w : World) : Calls Tryd.prog 127 #[u32v x, .int .i64 6] w fun e w' => e = .returned (u32v (rotr x 6)) ∧ Kept w w' := by
  have he : bits .or .u32 ((x.toNat : Int) / 64) ((x.toNat : Int) * 67108864 % 4294967296) = ((rotr x 6).toNat : Int) := by
    have h1 : (x.toNat : Int) * 67108864 % 4294967296 = ((x <<< (26 : UInt32)).toNat : Int) := by have := ushl x 26 (by decide); rw [IntKind.wrap_u32'] at this; exact this
    have h2 : (x.toNat : Int) / 64 = ((x >>> (6 : UInt32)).toNat : Int) := ushr x 6 (by decide)
    rw [h1, h2, uor]
    exact congrArg (fun y : UInt32 => (y.toNat : Int)) (rref x 6)
  go_enter Tryd.func127, Tryd.ntmps127
  go_wp2_with fail
  go_quiet (fail)
  go_wp2
  go_ret
  exact ⟨rfl, (Kept.refl w).drewN _⟩
theorem rr7 (x : UInt32) (w : World) : Calls Tryd.prog 127 #[u32v x, .int .i64 7] w fun e w' => e = .returned (u32v (rotr x 7)) ∧ Kept w w' := by
  have he : bits .or .u32 ((x.toNat : Int) / 128) ((x.toNat : Int) * 33554432 % 4294967296) = ((rotr x 7).toNat : Int) := by
    have h1 : (x.toNat : Int) * 33554432 % 4294967296 = ((x <<< (25 : UInt32)).toNat : Int) := by have := ushl x 25 (by decide); rw [IntKind.wrap_u32'] at this; exact this
    have h2 : (x.toNat : Int) / 128 = ((x >>> (7 : UInt32)).toNat : Int) := ushr x 7 (by decide)
    rw [h1, h2, uor]
    exact congrArg (fun y : UInt32 => (y.toNat : Int)) (rref x 7)
  go_enter Tryd.func127, Tryd.ntmps127
  go_wp2_with fail
  go_quiet (fail)
  go_wp2
  go_ret
  exact ⟨rfl, (Kept.refl w).drewN _⟩
theorem rr11 (x : UInt32) (w : World) : Calls Tryd.prog 127 #[u32v x, .int .i64 11] w fun e w' => e = .returned (u32v (rotr x 11)) ∧ Kept w w' := by
  have he : bits .or .u32 ((x.toNat : Int) / 2048) ((x.toNat : Int) * 2097152 % 4294967296) = ((rotr x 11).toNat : Int) := by
    have h1 : (x.toNat : Int) * 2097152 % 4294967296 = ((x <<< (21 : UInt32)).toNat : Int) := by have := ushl x 21 (by decide); rw [IntKind.wrap_u32'] at this; exact this
    have h2 : (x.toNat : Int) / 2048 = ((x >>> (11 : UInt32)).toNat : Int) := ushr x 11 (by decide)
    rw [h1, h2, uor]
    exact congrArg (fun y : UInt32 => (y.toNat : Int)) (rref x 11)
  go_enter Tryd.func127, Tryd.ntmps127
  go_wp2_with fail
  go_quiet (fail)
  go_wp2
  go_ret
  exact ⟨rfl, (Kept.refl w).drewN _⟩
theorem rr13 (x : UInt32) (w : World) : Calls Tryd.prog 127 #[u32v x, .int .i64 13] w fun e w' => e = .returned (u32v (rotr x 13)) ∧ Kept w w' := by
  have he : bits .or .u32 ((x.toNat : Int) / 8192) ((x.toNat : Int) * 524288 % 4294967296) = ((rotr x 13).toNat : Int) := by
    have h1 : (x.toNat : Int) * 524288 % 4294967296 = ((x <<< (19 : UInt32)).toNat : Int) := by have := ushl x 19 (by decide); rw [IntKind.wrap_u32'] at this; exact this
    have h2 : (x.toNat : Int) / 8192 = ((x >>> (13 : UInt32)).toNat : Int) := ushr x 13 (by decide)
    rw [h1, h2, uor]
    exact congrArg (fun y : UInt32 => (y.toNat : Int)) (rref x 13)
  go_enter Tryd.func127, Tryd.ntmps127
  go_wp2_with fail
  go_quiet (fail)
  go_wp2
  go_ret
  exact ⟨rfl, (Kept.refl w).drewN _⟩
theorem rr17 (x : UInt32) (w : World) : Calls Tryd.prog 127 #[u32v x, .int .i64 17] w fun e w' => e = .returned (u32v (rotr x 17)) ∧ Kept w w' := by
  have he : bits .or .u32 ((x.toNat : Int) / 131072) ((x.toNat : Int) * 32768 % 4294967296) = ((rotr x 17).toNat : Int) := by
    have h1 : (x.toNat : Int) * 32768 % 4294967296 = ((x <<< (15 : UInt32)).toNat : Int) := by have := ushl x 15 (by decide); rw [IntKind.wrap_u32'] at this; exact this
    have h2 : (x.toNat : Int) / 131072 = ((x >>> (17 : UInt32)).toNat : Int) := ushr x 17 (by decide)
    rw [h1, h2, uor]
    exact congrArg (fun y : UInt32 => (y.toNat : Int)) (rref x 17)
  go_enter Tryd.func127, Tryd.ntmps127
  go_wp2_with fail
  go_quiet (fail)
  go_wp2
  go_ret
  exact ⟨rfl, (Kept.refl w).drewN _⟩
theorem rr18 (x : UInt32) (w : World) : Calls Tryd.prog 127 #[u32v x, .int .i64 18] w fun e w' => e = .returned (u32v (rotr x 18)) ∧ Kept w w' := by
  have he : bits .or .u32 ((x.toNat : Int) / 262144) ((x.toNat : Int) * 16384 % 4294967296) = ((rotr x 18).toNat : Int) := by
    have h1 : (x.toNat : Int) * 16384 % 4294967296 = ((x <<< (14 : UInt32)).toNat : Int) := by have := ushl x 14 (by decide); rw [IntKind.wrap_u32'] at this; exact this
    have h2 : (x.toNat : Int) / 262144 = ((x >>> (18 : UInt32)).toNat : Int) := ushr x 18 (by decide)
    rw [h1, h2, uor]
    exact congrArg (fun y : UInt32 => (y.toNat : Int)) (rref x 18)
  go_enter Tryd.func127, Tryd.ntmps127
  go_wp2_with fail
  go_quiet (fail)
  go_wp2
  go_ret
  exact ⟨rfl, (Kept.refl w).drewN _⟩
theorem rr19 (x : UInt32) (w : World) : Calls Tryd.prog 127 #[u32v x, .int .i64 19] w fun e w' => e = .returned (u32v (rotr x 19)) ∧ Kept w w' := by
  have he : bits .or .u32 ((x.toNat : Int) / 524288) ((x.toNat : Int) * 8192 % 4294967296) = ((rotr x 19).toNat : Int) := by
    have h1 : (x.toNat : Int) * 8192 % 4294967296 = ((x <<< (13 : UInt32)).toNat : Int) := by have := ushl x 13 (by decide); rw [IntKind.wrap_u32'] at this; exact this
    have h2 : (x.toNat : Int) / 524288 = ((x >>> (19 : UInt32)).toNat : Int) := ushr x 19 (by decide)
    rw [h1, h2, uor]
    exact congrArg (fun y : UInt32 => (y.toNat : Int)) (rref x 19)
  go_enter Tryd.func127, Tryd.ntmps127
  go_wp2_with fail
  go_quiet (fail)
  go_wp2
  go_ret
  exact ⟨rfl, (Kept.refl w).drewN _⟩
theorem rr22 (x : UInt32) (w : World) : Calls Tryd.prog 127 #[u32v x, .int .i64 22] w fun e w' => e = .returned (u32v (rotr x 22)) ∧ Kept w w' := by
  have he : bits .or .u32 ((x.toNat : Int) / 4194304) ((x.toNat : Int) * 1024 % 4294967296) = ((rotr x 22).toNat : Int) := by
    have h1 : (x.toNat : Int) * 1024 % 4294967296 = ((x <<< (10 : UInt32)).toNat : Int) := by have := ushl x 10 (by decide); rw [IntKind.wrap_u32'] at this; exact this
    have h2 : (x.toNat : Int) / 4194304 = ((x >>> (22 : UInt32)).toNat : Int) := ushr x 22 (by decide)
    rw [h1, h2, uor]
    exact congrArg (fun y : UInt32 => (y.toNat : Int)) (rref x 22)
  go_enter Tryd.func127, Tryd.ntmps127
  go_wp2_with fail
  go_quiet (fail)
  go_wp2
  go_ret
  exact ⟨rfl, (Kept.refl w).drewN _⟩
theorem rr25 (x : UInt32) (w : World) : Calls Tryd.prog 127 #[u32v x, .int .i64 25] w fun e w' => e = .returned (u32v (rotr x 25)) ∧ Kept w w' := by
  have he : bits .or .u32 ((x.toNat : Int) / 33554432) ((x.toNat : Int) * 128 % 4294967296) = ((rotr x 25).toNat : Int) := by
    have h1 : (x.toNat : Int) * 128 % 4294967296 = ((x <<< (7 : UInt32)).toNat : Int) := by have := ushl x 7 (by decide); rw [IntKind.wrap_u32'] at this; exact this
    have h2 : (x.toNat : Int) / 33554432 = ((x >>> (25 : UInt32)).toNat : Int) := ushr x 25 (by decide)
    rw [h1, h2, uor]
    exact congrArg (fun y : UInt32 => (y.toNat : Int)) (rref x 25)
  go_enter Tryd.func127, Tryd.ntmps127
  go_wp2_with fail
  go_quiet (fail)
  go_wp2
  go_ret
  exact ⟨rfl, (Kept.refl w).drewN _⟩
end Go.Proofs.YtagpimahicgkmaaDoor
