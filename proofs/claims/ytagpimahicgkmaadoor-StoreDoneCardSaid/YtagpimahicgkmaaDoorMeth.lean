/- A method called through an interface value whose dynamic type is a pointer. Of no program. -/
import Derived.WalkKit
namespace Go.Proofs.YtagpimahicgkmaaDoor
open Go.RowKit

theorem method_val {P : Program} {t e : TypeId} {name : String} {f : FuncId} {fuel : Nat}
    (hm : ((P.info? t).bind fun i => (i.methods.find? (·.name == name)).map fun m => (m.path, m.func)) = some (#[], some (f, false))) (ht : P.underlying t = some (.pointer e))
    (a : Addr) (v : Value) (w : World) (h : (loadVar e a).run P w = .ok v w) : (method (fuel + 1) t (.pointer (some a)) name).run P w = .ok (f, v) w := by
  cases hi : P.info? t with
  | none => rw [hi] at hm; cases hm
  | some i =>
    rw [hi] at hm
    simp only [Option.bind_some] at hm
    cases hf : i.methods.find? (·.name == name) with
    | none => rw [hf] at hm; cases hm
    | some m =>
      rw [hf] at hm
      simp only [Option.map_some, Option.some.injEq, Prod.mk.injEq] at hm
      obtain ⟨h1, h2⟩ := hm
      have hs : ∀ nm : String, Builtin.ssaWrapNilChk_ #[t] t #[.pointer (some a), strVal "", strVal nm] = pure (.pointer (some a)) := fun _ => rfl
      simp [method, typeInfo, hi, hf, h1, h2, follow, receiverAt, run_underlying ht, Place.get, hs, asAddr, h]
theorem method_ptr {P : Program} {t e : TypeId} {name : String} {f : FuncId} {fuel : Nat}
    (hm : ((P.info? t).bind fun i => (i.methods.find? (·.name == name)).map fun m => (m.path, m.func)) = some (#[], some (f, true))) (ht : P.underlying t = some (.pointer e))
    (a : Addr) (w : World) : (method (fuel + 1) t (.pointer (some a)) name).run P w = .ok (f, .pointer (some a)) w := by
  cases hi : P.info? t with
  | none => rw [hi] at hm; cases hm
  | some i =>
    rw [hi] at hm
    simp only [Option.bind_some] at hm
    cases hf : i.methods.find? (·.name == name) with
    | none => rw [hf] at hm; cases hm
    | some m =>
      rw [hf] at hm
      simp only [Option.map_some, Option.some.injEq, Prod.mk.injEq] at hm
      obtain ⟨h1, h2⟩ := hm
      simp [method, typeInfo, hi, hf, h1, h2, follow, receiverAt, run_underlying ht, Place.get]
end Go.Proofs.YtagpimahicgkmaaDoor
