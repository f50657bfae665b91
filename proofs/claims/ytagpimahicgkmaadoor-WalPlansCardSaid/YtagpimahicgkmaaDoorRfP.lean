/- Plain: appends to a row of the document's writes. -/
import Derived.Test.YtagpimahicgkmaaDoorMa
namespace Go.Proofs.YtagpimahicgkmaaDoor
open Go.RowKit

theorem Tryd.infoRw : (Tryd.prog.info? 82).map (fun i => (i.zero, i.size, i.bytes)) = some (some (.agg #[.int .i64 0, .string .empty]), 2, 24) := by kernel_rfl

/-- 'append' to a row of the document's writes that the call owns. -/
theorem wpList_app_rw {w : World} {ops : Array Oper} {rest : List Oper} {o : Oper} {a : Act} {Q : Exit → Act → World → Prop} (hgd : o.guard = none) (s x : Operand)
    (ho : o.op = .call { callee := .builtin .append, args := #[s, x], argTypes := #[27, 27] })
    (base : Nat) (v : Value) (l : List Wr) (hs : a.eval s = v) (hown : w.ownsRow base 82 2 v l.length (wrs l))
    (V : List Nat) (A : Option Addr) (c : Nat) (m : List Wr) (hx : a.eval x = .slice A m.length c) (hr : Row V w A (wrs m)) (h63 : (l.length + m.length) * 24 ≤ 140737488355328) (hbase : base ≤ w.heap.size)
    (h : ∀ v' w', w'.ownsRow base 82 2 v' (l ++ m).length (wrs (l ++ m)) → w.grownBy w' v.ownBlock → (v'.ownBlock = v.ownBlock ∨ v'.ownBlock = some w.heap.size) → wpList Tryd.prog ops Q rest (a.put o.dst v') w') : wpList Tryd.prog ops Q (o :: rest) a w := by
  obtain ⟨i, hi, hz, hsz, hb⟩ := info_parts Tryd.infoRw
  refine wpList_append_any w hgd s x _ ho base _ i _ 2 24 Tryd.underlying27 hi hz hsz hb rfl (by omega) v l.length (wrs l) hs hown V A m.length c (wrs m) hx (wrs_length m) hr (wrs_one m) (by unfold maxLen; omega) h63 hbase ?_
  intro v' w' h1 h2 h3
  exact h v' w' (by rw [wrs_append, List.length_append]; exact h1) h2 h3

theorem take_snoc {α : Type} (l : List α) (k : Nat) (h : k < l.length) : l.take k ++ [l[k]] = l.take (k + 1) := by rw [List.take_succ_eq_append_getElem h]

end Go.Proofs.YtagpimahicgkmaaDoor
