/- Walks: Push of alloc.numbers and of container/heap over it. -/
import Derived.Test.YtbkipbkkdcikcaaHpPop
import Derived.Deep.Cut
namespace Go.Proofs.Ytbkipbkkdcikcaa
open Go.RowKit

theorem info_parts {P : Program} {t : TypeId} {z : Option Value} {n b : Nat} (h : (P.info? t).map (fun i => (i.zero, i.size, i.bytes)) = some (z, n, b)) : ∃ i, P.info? t = some i ∧ i.zero = z ∧ i.size = n ∧ i.bytes = b := by
  cases hi : P.info? t with
  | none => rw [hi] at h; cases h
  | some i => rw [hi] at h; simp only [Option.map_some, Option.some.injEq, Prod.mk.injEq] at h; exact ⟨i, rfl, h.1, h.2.1, h.2.2⟩
theorem Try.infoInt : (Try.prog.info? 3).map (fun i => (i.zero, i.size, i.bytes)) = some (some (.int .i64 0), 1, 8) := by kernel_rfl

/-- 'append' to a row of numbers that the call owns. -/
theorem wpList_app_num {w : World} {ops : Array Oper} {rest : List Oper} {o : Oper} {a : Act} {Q : Exit → Act → World → Prop} (hgd : o.guard = none) (s x : Operand) (t : TypeId) (ht : Try.prog.underlying t = some (.slice 3))
    (ho : o.op = .call { callee := .builtin .append, args := #[s, x], argTypes := #[t, t] })
    (base : Nat) (v : Value) (l : List Nat) (hs : a.eval s = v) (hown : w.ownsRow base 3 1 v l.length (nats l))
    (V : List Nat) (A : Option Addr) (c : Nat) (m : List Nat) (hx : a.eval x = .slice A m.length c) (hr : Row V w A (nats m)) (h63 : (l.length + m.length) * 8 ≤ 140737488355328) (hbase : base ≤ w.heap.size)
    (h : ∀ v' w', w'.ownsRow base 3 1 v' (l ++ m).length (nats (l ++ m)) → w.grownBy w' v.ownBlock → (v'.ownBlock = v.ownBlock ∨ v'.ownBlock = some w.heap.size) → wpList Try.prog ops Q rest (a.put o.dst v') w') : wpList Try.prog ops Q (o :: rest) a w := by
  obtain ⟨i, hi, hz, hsz, hb⟩ := info_parts Try.infoInt
  refine wpList_append_any w hgd s x _ ho base _ i _ 1 8 ht hi hz hsz hb rfl (by omega) v l.length (nats l) hs hown V A m.length c (nats m) hx (by simp [nats_length]) hr (nats_one m) (by unfold maxLen; omega) h63 hbase ?_
  intro v' w' h1 h2 h3
  exact h v' w' (by rw [nats_append, List.length_append]; exact h1) h2 h3

theorem hp_form {w : World} {base : Nat} {v : Value} {l : List Nat} (h : w.ownsRow base 3 1 v l.length (nats l)) (hl : 0 < l.length) : ∃ r c, v = .slice (some ⟨r, 0, none⟩) l.length c := by
  rcases h.2 with ⟨_, h0⟩ | ⟨r, c, _, e, _⟩
  · omega
  · exact ⟨r, c, e⟩
theorem hp_formv {w : World} {base : Nat} {v : Value} {l : List Nat} (h : w.ownsRow base 3 1 v l.length (nats l)) : ∃ A c, v = .slice A l.length c := by
  rcases h.2 with ⟨e, h0⟩ | ⟨r, c, _, e, _⟩
  · exact ⟨none, 0, by rw [h0]; exact e⟩
  · exact ⟨_, c, e⟩

theorem ta_int (x : Int) (w : World) : (Instr.typeAssert (.iface 3 (.int .i64 x)) 20 3 true).run Try.prog w = .ok (.tuple #[.int .i64 x, .bool true]) w := by kernel_rfl

def PushPost (w : World) (base g : Nat) (fv : Value) (l : List Nat) (tv : Value) (x : Nat) (e : Ending) (w' : World) : Prop :=
  ∃ r c, e = .returned (.tuple #[]) ∧ HpRow w' base r c (l ++ [x]) ∧ Own w' g 41 [tv, .slice (some ⟨r, 0, none⟩) (l ++ [x]).length c] ∧ Turn (fun k => fv.ownBlock = some k ∨ k = g) w w' ∧ (fv.ownBlock = some r ∨ w.heap.size ≤ r)

set_option maxHeartbeats 1000000 in
theorem nPush_any (base g : Nat) (fv : Value) (l : List Nat) (tv : Value) (x : Nat) (w : World) (h : w.ownsRow base 3 1 fv l.length (nats l)) (ho : Own w g 41 [tv, fv]) (hne : fv.ownBlock ≠ some g) (hb : base ≤ w.heap.size) (hl : l.length ≤ 1000) :
    Calls Try.prog 65 #[.pointer (some ⟨g, 1, none⟩), .iface 3 (.int .i64 (x : Int))] w (PushPost w base g fv l tv x) := by
  obtain ⟨A, c, rfl⟩ := hp_formv h
  have H := Lib.hid h
  have HO := Lib.hid ho
  obtain ⟨_, q2, _, q4⟩ := ho.two
  have hz := ho.lt
  have hta := ta_int
  clear h ho
  go_enter Try.func65, Try.ntmps65
  go_wp2_with (at_builtin; go_must (
    refine wpList_app_num rfl (.tmp 15) (.tmp 17) _ Try.underlying39 rfl base _ l rfl (H.out.alloc _) [] (some ⟨w.heap.size, 0, none⟩) 1 [x] rfl ((Own.new w _ (nats [x])).row (by simp)) (by simp; omega) (by simp; omega) ?_
    intro v3 w3 hown3 hg3 hat3
    obtain ⟨r3, c3, rfl⟩ := hp_form hown3 (by simp)
    have HO3 := Lib.hid ((HO.out.alloc (.cells (nats [x]).toArray 3)).grown hg3 (fun e => hne e.symm))
    have HT3 := Lib.hid ((((Turn.refl (fun k => (Value.slice A l.length c).ownBlock = some k ∨ k = g) w).alloc (.cells (nats [x]).toArray 3))).trans ((Turn.of_grown hg3).mono (fun k e => .inl e)))
    have HR3 := Lib.hid hown3
    have HA3 := Lib.hid hat3
    clear hown3 hg3 hat3 q2 q4
    obtain ⟨_, q2, _, q4⟩ := HO3.out.two))
  go_wp2
  go_end0
  have ha : (Value.slice A l.length c).ownBlock = some r3 ∨ w.heap.size ≤ r3 := by
    rcases HA3.out with e | e
    · exact .inl e.symm
    · right; rw [ownBlock_some] at e; injection e with e; rw [e]; simp
  have hgr : r3 ≠ g := by
    rintro rfl
    rcases ha with e | e
    · exact hne e
    · omega
  have hlx : (l ++ [x]).length = l.length + 1 := by simp
  refine ⟨r3, c3, rfl, HpRow.far HR3.out hgr _, ?_, HT3.out.setCell (.inr rfl) _, ha⟩
  rw [hlx]
  exact HO3.out.set_ 1 _

def HPushPost (w : World) (base g : Nat) (fv : Value) (l : List Nat) (tv : Value) (x : Nat) (e : Ending) (w' : World) : Prop :=
  ∃ r c l', e = .returned (.tuple #[]) ∧ HpRow w' base r c l' ∧ Own w' g 41 [tv, .slice (some ⟨r, 0, none⟩) l'.length c] ∧ Turn (fun k => fv.ownBlock = some k ∨ k = g) w w' ∧ (fv.ownBlock = some r ∨ w.heap.size ≤ r) ∧ l'.Perm (l ++ [x]) ∧ HeapFrom 0 l'.length l'

set_option maxHeartbeats 1000000 in
theorem hpush_any (base g : Nat) (fv : Value) (l : List Nat) (tv : Value) (x : Nat) (w : World) (h : w.ownsRow base 3 1 fv l.length (nats l)) (ho : Own w g 41 [tv, fv]) (hne : fv.ownBlock ≠ some g) (hb : base ≤ w.heap.size) (hl : l.length ≤ 900) (hh : HeapFrom 0 l.length l) :
    Calls Try.prog 21 #[.iface 43 (.pointer (some ⟨g, 1, none⟩)), .iface 3 (.int .i64 (x : Int))] w (HPushPost w base g fv l tv x) := by
  have H := Lib.hid h
  have HO := Lib.hid ho
  have HH := Lib.hid hh
  have hz := ho.lt
  have m3 := fun W fuel => method_ptr (fuel := fuel) Try.metPush Try.underlying43 ⟨g, 1, none⟩ W
  clear h ho hh
  go_enter Try.func21, Try.ntmps21
  go_wp2_with fail
  refine (nPush_any base g fv l tv x _ H.out HO.out hne hb (by omega)).mono ?_
  rintro e w1 ⟨r, c, rfl, hr1, ho1, ht1, ha1⟩
  have hgr : g ≠ r := by
    rintro rfl
    rcases ha1 with e | e
    · exact hne e
    · omega
  have HA1 := Lib.hid ha1
  have HT1 := Lib.hid ht1
  have HR1 := Lib.hid hr1
  have HO1 := Lib.hid ho1
  have hg1 := ho1.two.2.1
  have m1 := fun W fuel => meth_val (g := g) (v := .slice (some ⟨r, 0, none⟩) (l ++ [x]).length c) Try.metLen W fuel
  have HL : Hid ((l ++ [x]).length = l.length + 1) := by show _ = _; simp
  clear ha1 ht1 hr1 ho1
  rw [HL.out] at hg1 m1
  go_wp2_with fail
  refine (nLen_any _ _ _ _ (by unfold maxLen; omega)).mono ?_
  rintro e w2 ⟨rfl, rfl⟩
  have i1 : ((l.length + 1 : Nat) : Int) - 1 = (l.length : Int) := by omega
  have i2 : (l.length : Int) + 1 - 1 = (l.length : Int) := by omega
  go_wp2_with fail
  refine (up_any base g r c (l ++ [x]) l.length _ (pool_at HR1.out HO1.out hgr) (by rw [HL.out]; omega) (by rw [HL.out]; omega) (by rw [HL.out]; exact up_start HH.out)).mono ?_
  rintro e w3 ⟨l3, rfl, hp3, hg3, hpe3, hh3⟩
  go_wp2
  go_end0
  have hl3 := hpe3.length_eq
  refine ⟨r, c, l3, rfl, hp3.1, ?_, HT1.out.trans' (Turn.of_grown hg3) (fun j hj => ?_), HA1.out, hpe3, ?_⟩
  · rw [hl3]; exact HO1.out.grown hg3 (fun e => hgr (by injection e))
  · injection hj with hj
    subst hj
    rcases HA1.out with e | e
    · exact .inl (.inl e)
    · exact .inr e
  · rw [hl3]; exact hh3
end Go.Proofs.Ytbkipbkkdcikcaa
