/- Walks: container/heap.Init, up over alloc.numbers. Walks: Pop and Push of alloc.numbers and of container/heap over it. Rows of numbers that a call owns: append, and their form. Walks: alloc.Pool: Take, Give, Len. Walk: alloc.New. -/
import Derived.Test.YtagpimahicgkmaaDoorHpDown
import Derived.Test.YtagpimahicgkmaaDoorMa
import Derived.Laws.MakeOwn
import Derived.Deep.Onto
/-! Walks: container/heap.Init, up over alloc.numbers. -/
namespace Go.Proofs.YtagpimahicgkmaaDoor
open Go.RowKit

theorem heap_whole {n : Nat} {l : List Nat} {i : Nat} (h : n / 2 ≤ i) : HeapFrom i n l := fun k h0 hk h1 => by omega

set_option maxHeartbeats 1000000 in
theorem hinit_any (base g r c : Nat) (l : List Nat) (w : World) (h : HpAt w base g r c l) (hl : l.length ≤ 1000) :
    Calls Tryd.prog 88 #[.iface 148 (.pointer (some ⟨g, 1, none⟩))] w fun e w' => ∃ l', e = .returned (.tuple #[]) ∧ HpAt w' base g r c l' ∧ w.grownBy w' (some r) ∧ l'.Perm l ∧ HeapFrom 0 l.length l' := by
  have H := Lib.hid h
  have hg1 := h.2.1
  have hm := fun W fuel => meth_val (g := g) (v := .slice (some ⟨r, 0, none⟩) l.length c) Tryd.metLen W fuel
  clear h
  generalize hn : l.length = n at *
  have HN := Lib.hid hn
  clear hn
  go_enter Tryd.func88, Tryd.ntmps88
  go_wp2_with fail
  refine (nLen_any _ _ _ _ (by unfold maxLen; omega)).mono ?_
  rintro e w1 ⟨rfl, rfl⟩
  go_wp2_with fail
  go_loopw [3] (fun iv wr => ∃ (k : Nat) (l' : List Nat), k ≤ n / 2 ∧ iv = .int .i64 ((k : Int) - 1) ∧ HpAt wr base g r c l' ∧ w.grownBy wr (some r) ∧ l'.Perm l ∧ HeapFrom k n l') (fun iv _ => (intOf iv + 1).toNat)
  case atStart => exact ⟨n / 2, l, Nat.le_refl _, by go_num, H.out, World.grownBy.refl _ _, List.Perm.refl _, heap_whole (Nat.le_refl _)⟩
  case round =>
    obtain ⟨k, l', hk, rfl, hp, hgr, hperm, hinv⟩ := hrel
    have HP := Lib.hid hp
    have HG := Lib.hid hgr
    have HPE := Lib.hid hperm
    have HI := Lib.hid hinv
    have hlen : l'.length = n := hperm.length_eq.trans HN.out
    have HL := Lib.hid hlen
    clear hp hgr hperm hinv hlen hm hg1
    rcases k with _ | k
    · go_wp2
      go_end0
      exact ⟨l', rfl, HP.out, HG.out, HPE.out, HI.out⟩
    · have e1 : ((k + 1 : Nat) : Int) - 1 = k := by omega
      rw [e1]
      clear e1
      go_wp2_with fail
      refine (down_any base g r c l' k n _ HP.out (by rw [HL.out]; exact Nat.le_refl _) (by rw [HL.out]; exact hl) (by omega) HI.out).mono ?_
      rintro e w2 ⟨b, l2, rfl, hp2, hg2, hpe2, hi2, _⟩
      go_wp2
      go_roundw
      case rel => exact ⟨k, l2, by omega, by go_num, hp2, grown_trans HG.out hg2, hpe2.trans HPE.out, hi2⟩
      case measure => simp [intOf]
end Go.Proofs.YtagpimahicgkmaaDoor

/-! Walks: Pop and Push of alloc.numbers and of container/heap over it. -/
namespace Go.Proofs.YtagpimahicgkmaaDoor
open Go.RowKit

theorem pool_at {w : World} {base g r c : Nat} {l : List Nat} {tv : Value} (h : HpRow w base r c l) (ho : Own w g 146 [tv, .slice (some ⟨r, 0, none⟩) l.length c]) (hne : g ≠ r) : HpAt w base g r c l := ⟨h, ho.two.2.1, hne⟩

set_option maxHeartbeats 1000000 in
theorem nPop_any (base g r c n : Nat) (l : List Nat) (tv : Value) (w : World) (h : HpRow w base r c l) (ho : Own w g 146 [tv, .slice (some ⟨r, 0, none⟩) l.length c]) (hn : l.length = n + 1) (hl : l.length ≤ 1000) :
    Calls Tryd.prog 157 #[.pointer (some ⟨g, 1, none⟩)] w fun e w' => e = .returned (.iface 3 (.int .i64 (at0 l n : Nat))) ∧ w' = w.setCell ⟨g, 1, none⟩ (.slice (some ⟨r, 0, none⟩) n c) := by
  have g1 := h.cell (k := n) (by omega)
  obtain ⟨_, q2, _, q4⟩ := ho.two
  have hc : l.length ≤ c ∧ c ≤ maxLen := by
    rcases h.2 with ⟨e, _⟩ | ⟨_, _, _, e, _, _, h1, h2, _⟩
    · cases e
    · cases e; exact ⟨h1, h2⟩
  unfold maxLen at hc
  obtain ⟨hc1, hc2⟩ := hc
  rw [hn] at q2 hc1
  generalize at0 l n = x at *
  clear h ho hn hl
  have i1 : ((n + 1 : Nat) : Int) - 1 = (n : Int) := by omega
  have i2 : (n : Int) + 1 - 1 = (n : Int) := by omega
  go_enter Tryd.func157, Tryd.ntmps157
  go_wp2
  go_ret
  exact ⟨rfl, rfl⟩

theorem at0_take {l : List Nat} {n k : Nat} (h : k < n) : at0 (l.take n) k = at0 l k := by simp [at0, List.getElem?_take, h]
theorem heap_take {n : Nat} {l : List Nat} (h : HeapFrom 0 n l) : HeapFrom 0 n (l.take n) := fun k h0 hk h1 => by
  rw [at0_take hk, at0_take (by omega)]; exact h k h0 hk h1
theorem take_at {l : List Nat} {n : Nat} (h : l.length = n + 1) : l.take n ++ [at0 l n] = l := by
  rw [at0_lt (by omega), ← List.take_succ_eq_append_getElem (by omega), List.take_of_length_le (by omega)]
theorem nats_take (l : List Nat) (n : Nat) : nats (l.take n) = (nats l).take n := by simp [nats]
theorem HpRow.pop {w : World} {base r c n : Nat} {l : List Nat} (h : HpRow w base r c l) (hn : l.length = n + 1) : HpRow w base r c (l.take n) := by
  have hl : (l.take n).length = n := by rw [List.length_take]; omega
  unfold HpRow
  rw [hl]
  refine ownsRow_pop (last := nats [at0 l n]) (by rw [nats_length, hl, Nat.mul_one]) ?_
  rw [← nats_append, take_at hn, ← hn]
  exact h
theorem HpRow.far {w : World} {base r c : Nat} {l : List Nat} (h : HpRow w base r c l) {p : Addr} (hp : r ≠ p.block) (u : Value) : HpRow (w.setCell p u) base r c l :=
  ownsRow_setCell_other h (fun e => hp (by injection e)) u
theorem HpRow.turn {S : Nat → Prop} {w w' : World} {base r c : Nat} {l : List Nat} (h : HpRow w base r c l) (k : Turn S w w') (hr : ¬ S r) : HpRow w' base r c l := by
  refine ⟨h.1, ?_⟩
  rcases h.2 with ⟨e, _⟩ | ⟨g, cap, cur, e, hb, hh, rest⟩
  · cases e
  · cases e
    refine .inr ⟨r, c, cur, rfl, hb, ?_, rest⟩
    rw [k.block r (Array.getElem?_eq_some_iff.1 hh).1 hr]; exact hh

def PopPost (w : World) (base g r c : Nat) (l : List Nat) (tv : Value) (e : Ending) (w' : World) : Prop :=
  ∃ l', e = .returned (.iface 3 (.int .i64 (at0 l 0 : Nat))) ∧ HpRow w' base r c l' ∧ Own w' g 146 [tv, .slice (some ⟨r, 0, none⟩) l'.length c] ∧ Turn (fun k => k = r ∨ k = g) w w' ∧ (l' ++ [at0 l 0]).Perm l ∧ HeapFrom 0 l'.length l'

set_option maxHeartbeats 1000000 in
theorem hpop_any (base g r c n : Nat) (l : List Nat) (tv : Value) (w : World) (h : HpRow w base r c l) (ho : Own w g 146 [tv, .slice (some ⟨r, 0, none⟩) l.length c]) (hne : g ≠ r) (hn : l.length = n + 1) (hl : l.length ≤ 1000) (hh : HeapFrom 0 l.length l) :
    Calls Tryd.prog 119 #[.iface 148 (.pointer (some ⟨g, 1, none⟩))] w (PopPost w base g r c l tv) := by
  have H := Lib.hid h
  have HO := Lib.hid ho
  have hg1 := ho.two.2.1
  have HN := Lib.hid hn
  have hn1 : n < l.length := by omega
  have hn2 : l.length ≤ n + 1 := by omega
  have HH := Lib.hid hh
  have m1 := fun W fuel => meth_val (g := g) (v := .slice (some ⟨r, 0, none⟩) l.length c) Tryd.metLen W fuel
  have m2 := fun W fuel => meth_val (g := g) (v := .slice (some ⟨r, 0, none⟩) l.length c) Tryd.metSwap W fuel
  have m3 := fun W fuel => method_ptr (fuel := fuel) Tryd.metPop Tryd.underlying148 ⟨g, 1, none⟩ W
  clear h ho hn hh
  go_enter Tryd.func119, Tryd.ntmps119
  go_wp2_with fail
  refine (nLen_any _ _ _ _ (by unfold maxLen; omega)).mono ?_
  rintro e w1 ⟨rfl, rfl⟩
  have i1 : ((l.length : Nat) : Int) - 1 = (n : Int) := by omega
  go_wp2_with fail
  refine (nSwap_at base r c l 0 n _ _ _ H.out (by omega) (by omega) (by omega) (by omega)).mono ?_
  rintro e w2 ⟨rfl, hr2, hg2⟩
  have HA := Lib.hid ((pool_at H.out HO.out hne).go hg2 hr2 (swp_length _ _ _))
  have HO2 := Lib.hid (HO.out.grown hg2 (fun e => hne (by injection e)))
  have HG2 := Lib.hid hg2
  clear hr2 hg2 hg1
  go_wp2_with fail
  refine (down_any base g r c (swp l 0 n) 0 n _ HA.out (by rw [swp_length]; omega) (by rw [swp_length]; omega) (by omega) ?_).mono ?_
  · intro k h0 hk h1
    rw [at0_swp (by omega) (by omega), at0_swp (by omega) (by omega), if_neg (by omega), if_neg (by omega), if_neg (by omega), if_neg (by omega)]
    exact HH.out k h0 (by omega) (by omega)
  rintro e w3 ⟨b, l3, rfl, hp3, hg3, hpe3, hd3, hk3⟩
  have hl3 : l3.length = n + 1 := by rw [hpe3.length_eq, swp_length]; exact HN.out
  have HO3 := Lib.hid (HO2.out.grown hg3 (fun e => hne (by injection e)))
  have hx : at0 l3 n = at0 l 0 := by rw [hk3 n (Nat.le_refl _), at0_swp (by omega) (by omega), if_pos rfl]
  have HX := Lib.hid hx
  have HL3 := Lib.hid hl3
  have HP3 := Lib.hid hp3
  have HG3 := Lib.hid hg3
  have HPE := Lib.hid (hpe3.trans (swp_perm (xs := l) (i := 0) (j := n) (by omega) (by omega)))
  have HD3 := Lib.hid hd3
  clear hp3 hg3 hpe3 hd3 hk3 hx hl3
  go_wp2_with fail
  refine (nPop_any base g r c n l3 tv _ HP3.out.1 (by rw [HL3.out, ← HN.out]; exact HO3.out) HL3.out (by rw [HL3.out]; omega)).mono ?_
  rw [HX.out]
  rintro e w4 ⟨rfl, rfl⟩
  go_wp2
  go_ret
  have hlt : (l3.take n).length = n := by rw [List.length_take, HL3.out]; omega
  refine ⟨l3.take n, rfl, (HP3.out.1.pop HL3.out).far (fun e => hne e.symm) _, ?_, ?_, ?_, ?_⟩
  · rw [hlt]; exact HO3.out.set_ 1 _
  · exact ((((Turn.of_grown HG2.out).mono (fun k e => .inl (by injection e with e; exact e.symm))).trans ((Turn.of_grown HG3.out).mono (fun k e => .inl (by injection e with e; exact e.symm)))).setCell (.inr rfl) _)
  · rw [← HX.out, take_at HL3.out]; exact HPE.out
  · rw [hlt]; exact heap_take HD3.out
end Go.Proofs.YtagpimahicgkmaaDoor

/-! Rows of numbers that a call owns: append, and their form. -/
namespace Go.Proofs.YtagpimahicgkmaaDoor
open Go.RowKit

theorem num_parts {P : Program} {t : TypeId} {z : Option Value} {n b : Nat} (h : (P.info? t).map (fun i => (i.zero, i.size, i.bytes)) = some (z, n, b)) : ∃ i, P.info? t = some i ∧ i.zero = z ∧ i.size = n ∧ i.bytes = b := by
  cases hi : P.info? t with
  | none => rw [hi] at h; cases h
  | some i => rw [hi] at h; simp only [Option.map_some, Option.some.injEq, Prod.mk.injEq] at h; exact ⟨i, rfl, h.1, h.2.1, h.2.2⟩
theorem Tryd.infoNum : (Tryd.prog.info? 3).map (fun i => (i.zero, i.size, i.bytes)) = some (some (.int .i64 0), 1, 8) := by kernel_rfl

/-- 'append' to a row of numbers that the call owns. -/
theorem wpList_app_num {w : World} {ops : Array Oper} {rest : List Oper} {o : Oper} {a : Act} {Q : Exit → Act → World → Prop} (hgd : o.guard = none) (s x : Operand) (t : TypeId) (ht : Tryd.prog.underlying t = some (.slice 3))
    (ho : o.op = .call { callee := .builtin .append, args := #[s, x], argTypes := #[t, t] })
    (base : Nat) (v : Value) (l : List Nat) (hs : a.eval s = v) (hown : w.ownsRow base 3 1 v l.length (nats l))
    (V : List Nat) (A : Option Addr) (c : Nat) (m : List Nat) (hx : a.eval x = .slice A m.length c) (hr : Row V w A (nats m)) (h63 : (l.length + m.length) * 8 ≤ 140737488355328) (hbase : base ≤ w.heap.size)
    (h : ∀ v' w', w'.ownsRow base 3 1 v' (l ++ m).length (nats (l ++ m)) → w.grownBy w' v.ownBlock → (v'.ownBlock = v.ownBlock ∨ v'.ownBlock = some w.heap.size) → wpList Tryd.prog ops Q rest (a.put o.dst v') w') : wpList Tryd.prog ops Q (o :: rest) a w := by
  obtain ⟨i, hi, hz, hsz, hb⟩ := num_parts Tryd.infoNum
  refine wpList_append_any w hgd s x _ ho base _ i _ 1 8 ht hi hz hsz hb rfl (by omega) v l.length (nats l) hs hown V A m.length c (nats m) hx (by simp [nats_length]) hr (nats_one m) (by unfold maxLen; omega) h63 hbase ?_
  intro v' w' h1 h2 h3
  exact h v' w' (by rw [nats_append, List.length_append]; exact h1) h2 h3

theorem hp_form {w : World} {base : Nat} {v : Value} {l : List Nat} (h : w.ownsRow base 3 1 v l.length (nats l)) (hl : 0 < l.length) : ∃ r c, v = .slice (some ⟨r, 0, none⟩) l.length c := by
  rcases h.2 with ⟨_, h0⟩ | ⟨r, c, _, e, _⟩
  · omega
  · exact ⟨r, c, e⟩
theorem hp_formv {w : World} {base : Nat} {v : Value} {l : List Nat} (h : w.ownsRow base 3 1 v l.length (nats l)) : ∃ A c, v = .slice A l.length c := by
  rcases h.2 with ⟨e, h0⟩ | ⟨r, c, _, e, _⟩
  · exact ⟨none, 0, by rw [h0]; exact e⟩
  · exact ⟨_, c, e⟩

theorem ta_int (x : Int) (w : World) : (Instr.typeAssert (.iface 3 (.int .i64 x)) 20 3 true).run Tryd.prog w = .ok (.tuple #[.int .i64 x, .bool true]) w := by kernel_rfl
end Go.Proofs.YtagpimahicgkmaaDoor

/-! Walks: alloc.Pool: Take, Give, Len. -/
namespace Go.Proofs.YtagpimahicgkmaaDoor
open Go.RowKit

def bools (l : List Bool) : List Value := l.map Value.bool
theorem bools_length (l : List Bool) : (bools l).length = l.length := by simp [bools]
theorem bools_at {l : List Bool} {k : Nat} {b : Bool} (h : l[k]? = some b) : (bools l)[k]? = some (.bool b) := by simp [bools, h]
theorem bools_set (l : List Bool) (k : Nat) (b : Bool) : bools (l.set k b) = (bools l).set k (.bool b) := by simp [bools, List.map_set]

/-- A pool lies at g, none of its blocks one of V; tk: which numbers are taken. -/
def PoolV (w : World) (V : Nat → Prop) (g : Nat) (tk : List Bool) : Prop :=
  ∃ (tb : Nat) (fv : Value) (fr : List Nat), ¬ V g ∧ ¬ V tb ∧ (∀ k, fv.ownBlock = some k → ¬ V k) ∧ g ≠ tb ∧ tk.length ≤ 256 ∧ Own w g 146 [.slice (some ⟨tb, 0, none⟩) tk.length tk.length, fv] ∧ Own w tb 4 (bools tk) ∧
    w.ownsRow 0 3 1 fv fr.length (nats fr) ∧ fv.ownBlock ≠ some g ∧ fv.ownBlock ≠ some tb ∧ HeapOf tk fr
/-- A pool all of whose blocks lie from base on. -/
abbrev PoolAt (w : World) (base g : Nat) (tk : List Bool) : Prop := PoolV w (fun k => k < base) g tk
/-- The blocks of V are as they were. -/
abbrev Spared (V : Nat → Prop) (w w' : World) : Prop := Turn (fun k => ¬ V k) w w'

theorem HeapOf.len {tk : List Bool} {fr : List Nat} (h : HeapOf tk fr) : fr.length = (frees tk).length := h.2.length_eq
theorem frees_le (tk : List Bool) : (frees tk).length ≤ tk.length := by
  have := List.length_filter_le (fun i => tk[i]? == some false) (List.range tk.length)
  simpa [frees] using this

/-- What Take tells, and what is taken behind it. -/
def takeR (tk : List Bool) : Nat × Bool := match frees tk with | [] => (0, false) | x :: _ => (x, true)
def takeT (tk : List Bool) : List Bool := match frees tk with | [] => tk | x :: _ => tk.set x true

def TakeV (w : World) (V : Nat → Prop) (g : Nat) (tk : List Bool) (e : Ending) (w' : World) : Prop :=
  e = .returned (.tuple #[.int .i64 ((takeR tk).1 : Nat), .bool (takeR tk).2]) ∧ PoolV w' V g (takeT tk) ∧ Spared V w w'

set_option maxHeartbeats 1000000 in
theorem pTake_v (V : Nat → Prop) (g : Nat) (tk : List Bool) (w : World) (h : PoolV w V g tk) :
    Calls Tryd.prog 93 #[.pointer (some ⟨g, 0, none⟩)] w (TakeV w V g tk) := by
  have HP := Lib.hid h
  obtain ⟨tb, fv, fr, hv1, hv2, hv3, hne, hl, ho, hot, hr, hf1, hf2, hh⟩ := h
  obtain ⟨A, c, rfl⟩ := hp_formv hr
  obtain ⟨q1, q2, _, _⟩ := ho.two
  have h1 := frees_le tk
  have h2 := hh.len
  rcases Nat.eq_zero_or_pos fr.length with h0 | h0
  · have hfe : frees tk = [] := List.eq_nil_of_length_eq_zero (by omega)
    rw [h0] at q2
    have HF := Lib.hid hfe
    clear hr hh ho hot h2 hf1 hf2 hfe h0
    go_enter Tryd.func93, Tryd.ntmps93
    go_wp2
    go_ret2
    refine ⟨?_, ?_, Turn.refl _ _⟩
    · simp only [takeR, HF.out]; rfl
    · simp only [takeT, HF.out]; exact HP.out
  · obtain ⟨r, c', e⟩ := hp_form hr h0
    cases e
    obtain ⟨l, hfl⟩ := heap_head hh h0
    have hx : at0 fr 0 ∈ frees tk := by rw [hfl]; simp
    have hxt := mem_frees.1 hx
    have hxl : at0 fr 0 < tk.length := (List.getElem?_eq_some_iff.1 hxt).1
    obtain ⟨n, hn⟩ : ∃ n, fr.length = n + 1 := ⟨fr.length - 1, by omega⟩
    have hgr : g ≠ r := fun e => hf1 (by rw [ownBlock_some, e])
    have htr : tb ≠ r := fun e => hf2 (by rw [ownBlock_some, e])
    have hvr : ¬ V r := hv3 r rfl
    have HR := Lib.hid hr
    have HH := Lib.hid hh
    have HO := Lib.hid ho
    have HOT := Lib.hid hot
    have HFL := Lib.hid hfl
    have HXT := Lib.hid hxt
    have hta := ta_int
    have hlz : (fr.length : Int) ≠ 0 := by omega
    have hlz' := beq_f hlz
    have h257 : fr.length ≤ 256 := by omega
    clear hr hh ho hot h2 hf1 hf2 hfl hx hxt
    go_enter Tryd.func93, Tryd.ntmps93
    go_wp2_with fail
    refine (hpop_any 0 g r c n fr _ _ HR.out HO.out hgr hn (by omega) HH.out.1).mono ?_
    rintro e w1 ⟨l', rfl, hr1, ho1, ht1, hpe1, hh1⟩
    have hot1 := HOT.out.turn ht1 (fun e => e.elim htr (fun e => hne e.symm))
    have HR1 := Lib.hid hr1
    have HO1 := Lib.hid ho1
    have HT1 := Lib.hid ht1
    have HOT1 := Lib.hid hot1
    obtain ⟨s1, s2, _, _⟩ := ho1.two
    have u1 : w1.cell? ⟨tb, at0 fr 0, none⟩ = some (.bool false) := by rw [hot1.cell?, bools_at HXT.out]
    have u2 := hot1.frozen (at0 fr 0)
    have i0 : (0 : Int) ≤ (at0 fr 0 : Int) := by omega
    have i1 : (at0 fr 0 : Int) < (tk.length : Int) := by omega
    clear hr1 ho1 ht1 hot1 q1 q2 hn
    go_wp2
    go_ret2
    have e1 : takeR tk = (at0 fr 0, true) := by simp only [takeR, HFL.out]
    have e2 : takeT tk = tk.set (at0 fr 0) true := by simp only [takeT, HFL.out]
    refine ⟨by rw [e1]; rfl, ?_, ?_⟩
    · rw [e2]
      refine ⟨tb, _, l', hv1, hv2, fun k e => ?_, hne, by simpa using hl, by rw [List.length_set]; exact HO1.out.far hne _, by rw [bools_set]; exact HOT1.out.set_ _ _, HR1.out.far (fun e => htr e.symm) _, fun e => hgr (by rw [ownBlock_some] at e; injection e with e; exact e.symm), fun e => htr (by rw [ownBlock_some] at e; injection e with e; exact e.symm), hh1, ?_⟩
      · rw [← ownBlock_eq e]; exact hvr
      rw [frees_take HFL.out]
      have hp : (at0 fr 0 :: l').Perm (at0 fr 0 :: l) := by
        have := (List.perm_append_comm (l₁ := [at0 fr 0]) (l₂ := l')).trans (hpe1.trans HH.out.2)
        rw [HFL.out] at this
        exact this
      exact hp.cons_inv
    · exact (HT1.out.mono (fun k hk => by rcases hk with rfl | rfl; exact hvr; exact hv1)).setCell hv2 _

def TakePost (w : World) (base g : Nat) (tk : List Bool) (e : Ending) (w' : World) : Prop :=
  e = .returned (.tuple #[.int .i64 ((takeR tk).1 : Nat), .bool (takeR tk).2]) ∧ PoolAt w' base g (takeT tk) ∧ Below base w w'
theorem pTake_any (base g : Nat) (tk : List Bool) (w : World) (h : PoolAt w base g tk) (hb : base ≤ w.heap.size) :
    Calls Tryd.prog 93 #[.pointer (some ⟨g, 0, none⟩)] w (TakePost w base g tk) :=
  (pTake_v _ g tk w h).mono fun _ _ ⟨h1, h2, h3⟩ => ⟨h1, h2, h3.below (fun _ hk => Nat.le_of_not_lt hk) hb⟩

end Go.Proofs.YtagpimahicgkmaaDoor

/-! Walk: alloc.New. -/
namespace Go.Proofs.YtagpimahicgkmaaDoor
open Go.RowKit

def takenOf (n : Nat) (l : List Int) : List Bool := (List.range n).map fun (i : Nat) => l.contains (i : Int)
theorem takenOf_length (n : Nat) (l : List Int) : (takenOf n l).length = n := by simp [takenOf]
theorem takenOf_nil (n : Nat) : bools (takenOf n []) = List.replicate n (.bool false) := by
  apply List.ext_getElem
  · simp [takenOf, bools]
  · intro i h1 h2; simp [takenOf, bools]
theorem takenOf_in {n : Nat} {l : List Int} {j k : Nat} (h : j < l.length) (hk : l[j] = (k : Int)) : takenOf n (l.take (j + 1)) = (takenOf n (l.take j)).set k true := by
  apply List.ext_getElem
  · simp [takenOf]
  · intro i h1 h2
    rw [List.getElem_set]
    simp only [takenOf, List.getElem_map, List.getElem_range, List.take_succ_eq_append_getElem h, List.contains_append, hk]
    by_cases e : k = i
    · subst e; simp
    · rw [if_neg e]
      have : ([(k : Int)].contains (i : Int)) = false := by simp; omega
      rw [this, Bool.or_false]
theorem takenOf_out {n : Nat} {l : List Int} {j : Nat} (h : j < l.length) (hk : l[j] < 0 ∨ (n : Int) ≤ l[j]) : takenOf n (l.take (j + 1)) = takenOf n (l.take j) := by
  apply List.ext_getElem
  · simp [takenOf]
  · intro i h1 h2
    have hi : i < n := by simpa [takenOf] using h1
    simp only [takenOf, List.getElem_map, List.getElem_range, List.take_succ_eq_append_getElem h, List.contains_append]
    have : ([l[j]].contains (i : Int)) = false := by simp; omega
    rw [this, Bool.or_false]
def freesTo (tk : List Bool) (k : Nat) : List Nat := (List.range k).filter fun i => tk[i]? == some false
theorem freesTo_free {tk : List Bool} {k : Nat} (h : tk[k]? = some false) : freesTo tk k ++ [k] = freesTo tk (k + 1) := by simp [freesTo, List.range_succ, h]
theorem freesTo_taken {tk : List Bool} {k : Nat} (h : tk[k]? = some true) : freesTo tk k = freesTo tk (k + 1) := by simp [freesTo, List.range_succ, h]
theorem freesTo_all (tk : List Bool) : freesTo tk tk.length = frees tk := rfl
theorem freesTo_le (tk : List Bool) (k : Nat) : (freesTo tk k).length ≤ k := by
  have := List.length_filter_le (fun i => tk[i]? == some false) (List.range k)
  simpa [freesTo] using this

theorem Tryd.underBool : Tryd.prog.underlying 4 = some .bool := by kernel_rfl

/-- What New makes: a pool, or none. -/
def newOk (n : Int) : Bool := decide (0 ≤ n) && decide (n ≤ 256)

set_option maxHeartbeats 1000000 in
theorem aNew_no (n : Int) (l : List Int) (v : Value) (w : World) (h : IntsAt [] w v l) (hn : n < 0 ∨ 256 < n) :
    Calls Tryd.prog 71 #[.int .i64 n, v] w fun e w' => e = .returned (.pointer none) ∧ w = w' := by
  obtain ⟨A, c, rfl, hl, hm, hr⟩ := h
  clear hr
  rcases hn with hn | hn
  · go_enter Tryd.func71, Tryd.ntmps71
    go_wp2
    go_ret
    exact ⟨rfl, rfl⟩
  · have hn0 : ¬ n < 0 := by omega
    go_enter Tryd.func71, Tryd.ntmps71
    go_wp2
    go_ret
    exact ⟨rfl, rfl⟩
set_option maxHeartbeats 1000000 in
theorem hinit_zero (g c : Nat) (A : Option Addr) (w : World) (h : w.cell? ⟨g, 1, none⟩ = some (.slice A 0 c)) :
    Calls Tryd.prog 88 #[.iface 148 (.pointer (some ⟨g, 1, none⟩))] w fun e w' => e = .returned (.tuple #[]) ∧ w = w' := by
  have hm := fun W fuel => meth_val (g := g) (v := .slice A 0 c) Tryd.metLen W fuel
  go_enter Tryd.func88, Tryd.ntmps88
  go_wp2_with fail
  refine (nLen_any _ _ _ _ (by unfold maxLen; omega)).mono ?_
  rintro e w1 ⟨rfl, rfl⟩
  go_wp2_with fail
  go_loop [3] (fun iv => iv = .int .i64 (-1)) (fun _ => 0)
  case atStart => rfl
  case round =>
    subst hrel
    go_wp2
    go_end0
    exact ⟨rfl, rfl⟩

def NewPost (w : World) (n : Nat) (l : List Int) (e : Ending) (w' : World) : Prop :=
  ∃ g, e = .returned (.pointer (some ⟨g, 0, none⟩)) ∧ PoolAt w' w.heap.size g (takenOf n l) ∧ Kept w w'

set_option maxHeartbeats 1000000 in
theorem aNew_yes (n : Nat) (l : List Int) (v : Value) (w : World) (h : IntsAt [] w v l) (hn : n ≤ 256) :
    Calls Tryd.prog 71 #[.int .i64 n, v] w (NewPost w n l) := by
  obtain ⟨A, c, rfl, hl, hm, hr⟩ := h
  unfold maxLen at hm
  have HR := Lib.hid hr
  clear hr
  have hmk := run_mkBools n (by omega)
  go_enter Tryd.func71, Tryd.ntmps71
  go_wp2_with fail
  go_loopw [22] (fun i wr => ∃ j : Nat, j ≤ l.length ∧ i = .int .i64 j ∧ Own wr w.heap.size 4 (bools (takenOf n (l.take j))) ∧ Own wr (w.heap.size + 1) 146 [.slice (some ⟨w.heap.size, 0, none⟩) n n, .slice none 0 0] ∧ Kept w wr) (fun i _ => l.length - (intOf i).toNat)
  case atStart => exact ⟨0, Nat.zero_le _, rfl, by rw [List.take_zero, takenOf_nil]; simpa using (Own.new w 4 (List.replicate n (.bool false))).alloc _, Own.new1 w _ _ [_, _], ((Kept.refl w).alloc _).alloc _⟩
  case round =>
    obtain ⟨j, hj, rfl, ho1, ho2, hk⟩ := hrel
    have HO1 := Lib.hid ho1
    have HO2 := Lib.hid ho2
    obtain ⟨q1, q2, _, _⟩ := ho2.two
    by_cases hlt : j < l.length
    · obtain ⟨b, o, rfl, hb, _, hc⟩ := HR.out.kept hk (by rw [ints_length]; omega)
      have g1 : wr.cell? ⟨b, o + j, none⟩ = some (.int .i64 l[j]) := hc _ _ (ints_at hlt)
      clear hc
      by_cases h0 : 0 ≤ l[j]
      · obtain ⟨m, hm⟩ := Int.eq_ofNat_of_zero_le h0
        by_cases h1 : m < n
        · have HY := Lib.hid (takenOf_in (n := n) hlt hm)
          rw [hm] at g1
          obtain ⟨u, g3⟩ : ∃ u, wr.cell? ⟨w.heap.size, m, none⟩ = some u := ⟨_, ho1.cell (i := m) (by rw [bools_length, takenOf_length]; exact h1)⟩
          have g4 := ho1.frozen m
          have i0 : (0 : Int) ≤ (m : Int) := by omega
          have i1 : (m : Int) < (n : Int) := by omega
          clear ho1 ho2 hm h0
          go_wp2
          go_roundw
          case rel => exact ⟨j + 1, by omega, by go_num, by rw [HY.out, bools_set]; exact HO1.out.set_ _ _, HO2.out.far (by simp) _, hk.setCell (Nat.le_refl _) _⟩
          case measure => simp [intOf]; omega
        · have HY := Lib.hid (takenOf_out (n := n) hlt (.inr (by omega)))
          rw [hm] at g1
          have i0 : (0 : Int) ≤ (m : Int) := by omega
          have i1 : (n : Int) ≤ (m : Int) := by omega
          clear ho1 ho2 hm h0
          go_wp2
          go_roundw
          case rel => exact ⟨j + 1, by omega, by go_num, by rw [HY.out]; exact HO1.out, HO2.out, hk⟩
          case measure => simp [intOf]; omega
      · have HY := Lib.hid (takenOf_out (n := n) hlt (.inl (by omega)))
        have h0' : l[j] < 0 := by omega
        generalize l[j] = x at *
        clear ho1 ho2 h0
        go_wp2
        go_roundw
        case rel => exact ⟨j + 1, by omega, by go_num, by rw [HY.out]; exact HO1.out, HO2.out, hk⟩
        case measure => simp [intOf]; omega
    · obtain rfl : j = l.length := by omega
      rw [List.take_of_length_le (Nat.le_refl _)] at HO1
      have HTL := Lib.hid (takenOf_length n l)
      generalize htk : takenOf n l = tk at *
      have HTK := Lib.hid htk
      clear htk
      clear ho1 ho2
      go_wp2_with fail
      go_loopw [45] (fun i wr => ∃ (k : Nat) (B : Option Addr) (bc : Nat), k ≤ n ∧ i = .int .i64 k ∧ Own wr w.heap.size 4 (bools tk) ∧ Own wr (w.heap.size + 1) 146 [.slice (some ⟨w.heap.size, 0, none⟩) n n, .slice B (freesTo tk k).length bc] ∧ wr.ownsRow (w.heap.size + 1 + 1) 3 1 (.slice B (freesTo tk k).length bc) (freesTo tk k).length (nats (freesTo tk k)) ∧ Kept w wr) (fun i _ => n - (intOf i).toNat)
      case atStart => exact ⟨0, none, 0, Nat.zero_le _, rfl, HO1.out, HO2.out, World.ownsRow_nil _ _ _ _, hk⟩
      case round =>
        obtain ⟨k, B, bc, hkn, rfl, ho1, ho2, hrow, hk2⟩ := hrel
        have HO1 := Lib.hid ho1
        have HO2 := Lib.hid ho2
        have HRow := Lib.hid hrow
        obtain ⟨q1, q2, q3, q4⟩ := ho2.two
        by_cases hlt : k < n
        · obtain ⟨t, ht⟩ : ∃ t, tk[k]? = some t := ⟨_, List.getElem?_eq_getElem (by rw [HTL.out]; exact hlt)⟩
          have g1 : wr.cell? ⟨w.heap.size, k, none⟩ = some (.bool t) := by rw [ho1.cell?, bools_at ht]
          have i0 : (0 : Int) ≤ (k : Int) := by omega
          have i1 : (k : Int) < (n : Int) := by omega
          have hz := ho2.lt
          have hfl := freesTo_le tk k
          clear ho1 ho2 hrow
          cases t with
          | true =>
            have HY := Lib.hid (freesTo_taken ht)
            clear ht
            go_wp2
            go_roundw
            case rel => exact ⟨k + 1, B, bc, by omega, by go_num, HO1.out, by rw [← HY.out]; exact HO2.out, by rw [← HY.out]; exact HRow.out, hk2⟩
            case measure => simp [intOf]; omega
          | false =>
            have HY := Lib.hid (freesTo_free ht)
            have HB : Hid (∀ bb, (Value.slice B (freesTo tk k).length bc).ownBlock = some bb → w.heap.size + 1 + 1 ≤ bb) := fun bb hb => (HRow.out.lt bb hb).1
            clear ht
            go_wp2_with (at_builtin; go_must (
              refine wpList_app_num rfl (.tmp 56) (.tmp 58) _ Tryd.underlying144 rfl (w.heap.size + 1 + 1) _ (freesTo tk k) rfl (HRow.out.alloc _) [] (some ⟨wr.heap.size, 0, none⟩) 1 [k] rfl ((Own.new wr _ (nats [k])).row (by simp)) (by simp; omega) (by simp; omega) ?_
              intro v3 w3 hown3 hg3 hat3
              obtain ⟨B3, c3, rfl⟩ := hp_formv hown3
              have HO1x := Lib.hid ((HO1.out.alloc (.cells (nats [k]).toArray 3)).appd hg3 (fun bb hb => by have := HB.out bb hb; omega))
              have HO2x := Lib.hid ((HO2.out.alloc (.cells (nats [k]).toArray 3)).appd hg3 (fun bb hb => by have := HB.out bb hb; omega))
              have hkx : Kept w w3 := (hk2.alloc _).grown hg3 (fun bb hb => by have := HB.out bb hb; omega)
              rw [HY.out] at hown3
              rw [HY.out]
              have HRow3 := Lib.hid hown3
              clear hown3 hg3 hat3 q1 q2 q3 q4 g1
              obtain ⟨q1, q2, q3, q4⟩ := HO2x.out.two))
            go_wp2
            go_roundw
            case rel => exact ⟨k + 1, B3, c3, by omega, by go_num, HO1x.out.far (by simp) _, HO2x.out.set_ 1 _, ownsRow_setCell_below HRow3.out (by simp) _, hkx.setCell (by simp) _⟩
            case measure => simp [intOf]; omega
        · obtain rfl : k = n := by omega
          have HFA : Hid (freesTo tk k = frees tk) := by show _ = _; rw [← HTL.out]; exact freesTo_all tk
          rw [HFA.out] at hrow HRow HO2 q2
          have hfl := frees_le tk
          have HB : Hid (∀ bb, (Value.slice B (frees tk).length bc).ownBlock = some bb → w.heap.size + 1 + 1 ≤ bb) := fun bb hb => (HRow.out.lt bb hb).1
          rcases Nat.eq_zero_or_pos (frees tk).length with h0 | h0
          · clear hrow ho1 ho2
            rw [h0] at q2
            go_wp2_with fail
            refine (hinit_zero _ _ _ _ q2).mono ?_
            rintro e w3 ⟨rfl, rfl⟩
            go_wp2
            go_ret
            refine ⟨w.heap.size + 1, rfl, ?_, hk2⟩
            rw [HTK.out]
            refine ⟨w.heap.size, _, frees tk, by omega, by omega, fun k e => by have := HB.out k e; omega, by omega, by rw [HTL.out]; exact hn, by rw [HTL.out]; exact HO2.out, HO1.out, World.ownsRow.mono HRow.out (by omega), fun e => ?_, fun e => ?_, ⟨fun k h1 h2 => by omega, List.Perm.refl _⟩⟩
            · have := HB.out _ e; omega
            · have := HB.out _ e; omega
          · obtain ⟨r, c', e⟩ := hp_form hrow h0
            cases e
            have hr2 : w.heap.size + 1 + 1 ≤ r := HB.out r rfl
            clear hrow ho1 ho2
            go_wp2_with fail
            refine (hinit_any _ _ _ _ (frees tk) _ (pool_at HRow.out HO2.out (by omega)) (by rw [HTL.out] at hfl; omega)).mono ?_
            rintro e w3 ⟨l3, rfl, hp3, hg3, hpe3, hh3⟩
            go_wp2
            go_ret
            have hl3 := hpe3.length_eq
            refine ⟨w.heap.size + 1, rfl, ?_, hk2.grown hg3 (fun b e => by injection e; omega)⟩
            rw [HTK.out]
            refine ⟨w.heap.size, .slice (some ⟨r, 0, none⟩) (frees tk).length bc, l3, by omega, by omega, fun k e => by have := ownBlock_eq e; omega, by omega, by rw [HTL.out]; exact hn, by rw [HTL.out]; exact HO2.out.grown hg3 (fun e => by injection e; omega), HO1.out.grown hg3 (fun e => by injection e; omega), ?_, fun e => ?_, fun e => ?_, ⟨by rw [hl3]; exact hh3, hpe3⟩⟩
            · rw [← hl3]; exact World.ownsRow.mono hp3.1 (by omega)
            · have := ownBlock_eq e; omega
            · have := ownBlock_eq e; omega
end Go.Proofs.YtagpimahicgkmaaDoor
