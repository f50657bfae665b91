/- Walks: slices.Clone over mails and over mailboxes. -/
import Derived.Test.YtjinnkbnllnllaaIxFind
import Derived.Test.YtjinnkbnllnllaaApp
import Derived.Lib.SliceRun
import Derived.Deep.Onto
namespace Go.Proofs.Ytjinnkbnllnllaa
open Go.RowKit

theorem info_parts {P : Program} {t : TypeId} {z : Option Value} {n b : Nat} (h : (P.info? t).map (fun i => (i.zero, i.size, i.bytes)) = some (z, n, b)) : ∃ i, P.info? t = some i ∧ i.zero = z ∧ i.size = n ∧ i.bytes = b := by
  cases hi : P.info? t with
  | none => rw [hi] at h; cases h
  | some i => rw [hi] at h; simp only [Option.map_some, Option.some.injEq, Prod.mk.injEq] at h; exact ⟨i, rfl, h.1, h.2.1, h.2.2⟩
theorem mls_one (l : List Ml) : ∀ v ∈ mls l, v.oneCell' = true := by
  intro v hv
  simp only [mls, mlc, List.mem_flatMap] at hv
  obtain ⟨a, _, h⟩ := hv
  simp only [List.mem_cons, List.not_mem_nil, or_false] at h
  rcases h with rfl | rfl | rfl | rfl <;> rfl
theorem bxs_one (l : List Bp) (hm : ∀ p ∈ l, ∃ A n c, p.2 = .slice A n c) : ∀ v ∈ bxs l, v.oneCell' = true := by
  intro v hv
  simp only [bxs, bxc, List.mem_flatMap] at hv
  obtain ⟨p, hp, h⟩ := hv
  simp only [List.mem_cons, List.not_mem_nil, or_false] at h
  obtain ⟨A, n, c, e⟩ := hm p hp
  rcases h with rfl | rfl | rfl | rfl
  · rfl
  · rfl
  · rfl
  · rw [e]; rfl

theorem Try.infoMl : (Try.prog.info? 47).map (fun i => (i.zero, i.size, i.bytes)) = some (some (.agg #[.int .i64 0, .int .i64 0, .int .i64 0, .int .i64 0]), 4, 32) := by kernel_rfl
/-- 'append' of a whole row to a row that the call owns. -/
theorem wpList_app_Ml {w : World} {ops : Array Oper} {rest : List Oper} {o : Oper} {a : Act} {Q : Exit → Act → World → Prop} (hgd : o.guard = none) (s x : Operand)
    (ho : o.op = .call { callee := .builtin .append, args := #[s, x], argTypes := #[38, 38] })
    (base : Nat) (v : Value) (l : List Ml) (hs : a.eval s = v) (hown : w.ownsRow base 47 4 v l.length (mls l))
    (V : List Nat) (A : Option Addr) (c : Nat) (m : List Ml) (hx : a.eval x = .slice A m.length c) (hr : Row V w A (mls m)) (h1 : ∀ u ∈ mls m, u.oneCell' = true) (h63 : (l.length + m.length) * 32 ≤ 140737488355328) (hbase : base ≤ w.heap.size)
    (h : ∀ v' w', w'.ownsRow base 47 4 v' (l ++ m).length (mls (l ++ m)) → w.grownBy w' v.ownBlock → (v'.ownBlock = v.ownBlock ∨ v'.ownBlock = some w.heap.size) → wpList Try.prog ops Q rest (a.put o.dst v') w') : wpList Try.prog ops Q (o :: rest) a w := by
  obtain ⟨i, hi, hz, hsz, hb⟩ := info_parts Try.infoMl
  refine wpList_append_any w hgd s x _ ho base _ i _ 4 32 Try.underlying38 hi hz hsz hb rfl (by omega) v l.length (mls l) hs hown V A m.length c (mls m) hx (mls_length m) hr h1 (by unfold maxLen; omega) h63 hbase ?_
  intro v' w' h1 h2 h3
  exact h v' w' (by rw [mls_append, List.length_append]; exact h1) h2 h3

set_option maxHeartbeats 1000000 in
theorem cloneMl_any (l : List Ml) (A : Option Addr) (c : Nat) (w : World) (hr : Row [] w A (mls l)) (h1 : ∀ u ∈ mls l, u.oneCell' = true) (hl : l.length ≤ 1000) :
    Calls Try.prog 35 #[.slice A l.length c] w fun e w' => ∃ B bc, e = .returned (.slice B l.length bc) ∧ w'.ownsRow w.heap.size 47 4 (.slice B l.length bc) l.length (mls l) ∧ Kept w w' := by
  have hnil := fun W a n k => Lib.run_eql_slice_nil (P := Try.prog) W 38 47 a n k 0 0 Try.underlying38
  rcases A with _ | ad
  · have hl0 : l = [] := by
      cases l with
      | nil => rfl
      | cons a l =>
        obtain ⟨_, _, e, _⟩ := hr (by rw [mls_length]; simp)
        cases e
    subst hl0
    clear hr
    go_enter Try.func35, Try.ntmps35
    go_wp2
    go_ret
    exact ⟨none, 0, rfl, World.ownsRow_nil _ _ _ _, Kept.refl _⟩
  · have HR := Lib.hid hr
    have H1 := Lib.hid h1
    clear hr h1
    go_enter Try.func35, Try.ntmps35
    go_wp2_with (at_builtin; go_must (
      refine wpList_app_Ml rfl (.tmp 5) (.tmp 6) rfl w.heap.size _ [] rfl (World.ownsRow_made w #[] 0 (Nat.le_refl _) (Nat.zero_le _) rfl) [] (some ad) c l rfl (HR.out.kept ((Kept.refl w).alloc _)) H1.out (by simp; omega) (by simp) ?_
      intro v3 w3 hown3 hg3 hat3
      rw [List.nil_append] at hown3
      obtain ⟨B3, c3, rfl, hc3, hm3, hr3⟩ := own_form (V := []) hown3 (by simp)
      have hk3 : Kept w w3 := ((Kept.refl w).alloc _).grown hg3 (fun bb hb => by have hb' : some w.heap.size = some bb := hb; injection hb' with hb'; omega)
      have HO3 := Lib.hid hown3
      clear hown3 hg3 hat3 hr3))
    go_wp2
    go_ret
    exact ⟨B3, c3, rfl, HO3.out, hk3⟩

theorem Try.infoBx : (Try.prog.info? 40).map (fun i => (i.zero, i.size, i.bytes)) = some (some (.agg #[.string .empty, .int .i64 0, .int .i64 0, .slice none 0 0]), 4, 56) := by kernel_rfl
/-- 'append' of a whole row to a row that the call owns. -/
theorem wpList_app_Bx {w : World} {ops : Array Oper} {rest : List Oper} {o : Oper} {a : Act} {Q : Exit → Act → World → Prop} (hgd : o.guard = none) (s x : Operand)
    (ho : o.op = .call { callee := .builtin .append, args := #[s, x], argTypes := #[22, 22] })
    (base : Nat) (v : Value) (l : List Bp) (hs : a.eval s = v) (hown : w.ownsRow base 40 4 v l.length (bxs l))
    (V : List Nat) (A : Option Addr) (c : Nat) (m : List Bp) (hx : a.eval x = .slice A m.length c) (hr : Row V w A (bxs m)) (h1 : ∀ u ∈ bxs m, u.oneCell' = true) (h63 : (l.length + m.length) * 56 ≤ 140737488355328) (hbase : base ≤ w.heap.size)
    (h : ∀ v' w', w'.ownsRow base 40 4 v' (l ++ m).length (bxs (l ++ m)) → w.grownBy w' v.ownBlock → (v'.ownBlock = v.ownBlock ∨ v'.ownBlock = some w.heap.size) → wpList Try.prog ops Q rest (a.put o.dst v') w') : wpList Try.prog ops Q (o :: rest) a w := by
  obtain ⟨i, hi, hz, hsz, hb⟩ := info_parts Try.infoBx
  refine wpList_append_any w hgd s x _ ho base _ i _ 4 56 Try.underlying22 hi hz hsz hb rfl (by omega) v l.length (bxs l) hs hown V A m.length c (bxs m) hx (bxs_length m) hr h1 (by unfold maxLen; omega) h63 hbase ?_
  intro v' w' h1 h2 h3
  exact h v' w' (by rw [bxs_append, List.length_append]; exact h1) h2 h3

set_option maxHeartbeats 1000000 in
theorem cloneBx_any (l : List Bp) (A : Option Addr) (c : Nat) (w : World) (hr : Row [] w A (bxs l)) (h1 : ∀ u ∈ bxs l, u.oneCell' = true) (hl : l.length ≤ 1000) :
    Calls Try.prog 59 #[.slice A l.length c] w fun e w' => ∃ B bc, e = .returned (.slice B l.length bc) ∧ w'.ownsRow w.heap.size 40 4 (.slice B l.length bc) l.length (bxs l) ∧ Kept w w' := by
  have hnil := fun W a n k => Lib.run_eql_slice_nil (P := Try.prog) W 22 40 a n k 0 0 Try.underlying22
  rcases A with _ | ad
  · have hl0 : l = [] := by
      cases l with
      | nil => rfl
      | cons a l =>
        obtain ⟨_, _, e, _⟩ := hr (by rw [bxs_length]; simp)
        cases e
    subst hl0
    clear hr
    go_enter Try.func59, Try.ntmps59
    go_wp2
    go_ret
    exact ⟨none, 0, rfl, World.ownsRow_nil _ _ _ _, Kept.refl _⟩
  · have HR := Lib.hid hr
    have H1 := Lib.hid h1
    clear hr h1
    go_enter Try.func59, Try.ntmps59
    go_wp2_with (at_builtin; go_must (
      refine wpList_app_Bx rfl (.tmp 5) (.tmp 6) rfl w.heap.size _ [] rfl (World.ownsRow_made w #[] 0 (Nat.le_refl _) (Nat.zero_le _) rfl) [] (some ad) c l rfl (HR.out.kept ((Kept.refl w).alloc _)) H1.out (by simp; omega) (by simp) ?_
      intro v3 w3 hown3 hg3 hat3
      rw [List.nil_append] at hown3
      obtain ⟨B3, c3, rfl, hc3, hm3, hr3⟩ := own_form (V := []) hown3 (by simp)
      have hk3 : Kept w w3 := ((Kept.refl w).alloc _).grown hg3 (fun bb hb => by have hb' : some w.heap.size = some bb := hb; injection hb' with hb'; omega)
      have HO3 := Lib.hid hown3
      clear hown3 hg3 hat3 hr3))
    go_wp2
    go_ret
    exact ⟨B3, c3, rfl, HO3.out, hk3⟩
end Go.Proofs.Ytjinnkbnllnllaa
