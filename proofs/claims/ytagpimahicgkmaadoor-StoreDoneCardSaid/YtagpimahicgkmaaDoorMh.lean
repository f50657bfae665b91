/- What a change does to a store's state. Walk: (*state).change. A store's state when it is made. -/
import Derived.Test.YtagpimahicgkmaaDoorStF
/-! What a change does to a store's state. -/
namespace Go.Proofs.YtagpimahicgkmaaDoor
open Go.RowKit

/-- A change: a name, its bytes, or that it goes. -/
structure Chg where
  name : ByteArray
  data : ByteArray
  gone : Bool
def chgC (c : Chg) : List Value := [.string c.name, .string c.data, .bool c.gone]
/-- A state: slots, the pools of both classes, writes. -/
structure Sto where
  sl : List Slot
  t0 : List Bool
  t1 : List Bool
  ws : List Wr
def Sto.tk (q : Sto) (cl : Nat) : List Bool := if cl = 0 then q.t0 else q.t1
def Sto.take (q : Sto) (cl : Nat) : Sto := if cl = 0 then { q with t0 := takeT q.t0 } else { q with t1 := takeT q.t1 }
def Sto.put (q : Sto) (k : Nat) (t : Slot) : Sto := { q with sl := q.sl.set k t, ws := q.ws ++ [⟨61 + k, encS t⟩] }
def clsN (n : Nat) : Nat := if capN 0 < n then 1 else 0
def chgAt (q : Sto) (c : Chg) : Int := if ixI (nameP c.name) q.sl < 0 then ixI freeP q.sl else ixI (nameP c.name) q.sl
/-- What a change tells, and the state behind it. -/
def changeR (q : Sto) (c : Chg) : Int × Sto :=
  if c.name.size < 1 ∨ 24 < c.name.size then (1, q)
  else if c.gone then
    if ixI (nameP c.name) q.sl < 0 then (6, q) else (0, q.put (ixI (nameP c.name) q.sl).toNat slot0)
  else if 1024 < c.data.size then (4, q)
  else if chgAt q c < 0 then (5, q)
  else if (takeR (q.tk (clsN c.data.size))).2 then
    (0, Sto.put { q.take (clsN c.data.size) with ws := q.ws ++ fillL (clsN c.data.size) (takeR (q.tk (clsN c.data.size))).1 c.data } (chgAt q c).toNat
      ⟨true, clsN c.data.size, (takeR (q.tk (clsN c.data.size))).1, c.data.size, c.name⟩)
  else (5, q.take (clsN c.data.size))
/-- What changes tell, and the state behind them: up to the first that is refused. -/
def changesR : Sto → List Chg → Int × Sto
  | q, [] => (0, q)
  | q, c :: cs => if (changeR q c).1 = 0 then changesR (changeR q c).2 cs else changeR q c
theorem ixI_cases (p : Slot → Bool) (l : List Slot) : (ixI p l = -1 ∧ ∀ t ∈ l, p t = false) ∨ ∃ k, ∃ h : k < l.length, ixI p l = (k : Int) ∧ p l[k] = true := by
  unfold ixI
  rcases e : l.findIdx? p with _ | k
  · left
    refine ⟨rfl, fun t ht => ?_⟩
    have := (List.findIdx?_eq_none_iff.1 e) t ht
    simpa using this
  · right
    obtain ⟨h1, h2, _⟩ := List.findIdx?_eq_some_iff_getElem.1 e
    exact ⟨k, h1, rfl, h2⟩
/-- A take at a state's pool. -/
theorem StV.take0 {V V0 V1 : Nat → Prop} {w w' : World} {s : Nat} {l : List Slot} {tk0 tk1 tk : List Bool} {ws : List Wr} {g q0 q1 : Nat} {wv : Value} (h : StV V V0 V1 w s l tk0 tk1 ws g q0 q1 wv) (hp : PoolV w' V0 q0 tk) (k : Spared V0 w w') : StV V V0 V1 w' s l tk tk1 ws g q0 q1 wv :=
  ⟨h.st.turn k (fun e => e h.ns.2.1), h.sl.turn k (fun e => e h.ng.2.1), h.len, ownsRow_turn h.row k (fun j hj e => e (h.nw j hj).2.1), hp, h.p1.spare k (fun j _ e => (h.any j).resolve_left e), h.any, fun j hj => h.top j (Nat.le_trans k.size hj), h.ns, h.ng, h.nw, h.sg, h.ws', h.wg, h.sub⟩
theorem StV.take1 {V V0 V1 : Nat → Prop} {w w' : World} {s : Nat} {l : List Slot} {tk0 tk1 tk : List Bool} {ws : List Wr} {g q0 q1 : Nat} {wv : Value} (h : StV V V0 V1 w s l tk0 tk1 ws g q0 q1 wv) (hp : PoolV w' V1 q1 tk) (k : Spared V1 w w') : StV V V0 V1 w' s l tk0 tk ws g q0 q1 wv :=
  ⟨h.st.turn k (fun e => e h.ns.2.2), h.sl.turn k (fun e => e h.ng.2.2), h.len, ownsRow_turn h.row k (fun j hj e => e (h.nw j hj).2.2), h.p0.spare k (fun j _ e => (h.any j).resolve_right e), hp, h.any, fun j hj => h.top j (Nat.le_trans k.size hj), h.ns, h.ng, h.nw, h.sg, h.ws', h.wg, h.sub⟩
end Go.Proofs.YtagpimahicgkmaaDoor

/-! Walk: (*state).change. -/
namespace Go.Proofs.YtagpimahicgkmaaDoor
open Go.RowKit

theorem takeR_le (tk : List Bool) : (takeR tk).1 ≤ tk.length := by
  unfold takeR
  split
  · exact Nat.zero_le _
  · rename_i x r h
    have := mem_frees.1 (show x ∈ frees tk by rw [h]; simp)
    exact Nat.le_of_lt (List.getElem?_eq_some_iff.1 this).1
theorem PoolV.len {V : Nat → Prop} {w : World} {g : Nat} {tk : List Bool} (h : PoolV w V g tk) : tk.length ≤ 256 := by
  obtain ⟨_, _, _, _, _, _, _, h, _⟩ := h; exact h
def ChgPost (V V0 V1 : Nat → Prop) (s : Nat) (r : Int × Sto) (w : World) (e : Ending) (w' : World) : Prop :=
  e = .returned (.int .i64 r.1) ∧ StAt V V0 V1 w' s r.2.sl r.2.t0 r.2.t1 r.2.ws ∧ Turn (fun k => ¬ V k) w w'

set_option maxRecDepth 100000 in
set_option maxHeartbeats 4000000 in
theorem change_any (V V0 V1 : Nat → Prop) (s : Nat) (q : Sto) (c : Chg) (w : World) (h : StAt V V0 V1 w s q.sl q.t0 q.t1 q.ws) (hws : q.ws.length ≤ 5000) :
    Calls Tryd.prog 74 #[.pointer (some ⟨s, 0, none⟩), .agg (chgC c).toArray] w (ChgPost V V0 V1 s (changeR q c) w) := by
  have HS0 := Lib.hid h
  obtain ⟨nm, x, rm⟩ := c
  show Calls _ _ #[_, .agg #[.string nm, .string x, .bool rm]] w _
  obtain ⟨l, t0, t1, ws⟩ := q
  simp only at hws h
  have HWS := Lib.hid hws
  clear hws
  by_cases hn : nm.size < 1 ∨ 24 < nm.size
  · have HE : Hid (changeR ⟨l, t0, t1, ws⟩ ⟨nm, x, rm⟩ = (1, ⟨l, t0, t1, ws⟩)) := by show _ = _; unfold changeR; rw [if_pos hn]
    clear h
    rcases Nat.lt_or_ge nm.size 1 with h1 | h1
    · have g1 : (nm.size : Int) < 1 := by omega
      clear hn h1
      go_enter Tryd.func74, Tryd.ntmps74
      go_wp2
      go_ret
      refine ⟨by rw [HE.out]; rfl, by rw [HE.out]; exact HS0.out.go ((Kept.refl w).alloc _), (Turn.refl _ w).alloc _⟩
    · have g1 : ¬ (nm.size : Int) < 1 := by omega
      have g2 : (nm.size : Int) > 24 := by omega
      clear hn h1
      go_enter Tryd.func74, Tryd.ntmps74
      go_wp2
      go_ret
      refine ⟨by rw [HE.out]; rfl, by rw [HE.out]; exact HS0.out.go ((Kept.refl w).alloc _), (Turn.refl _ w).alloc _⟩
  · have g1 : ¬ (nm.size : Int) < 1 := by omega
    have g2 : ¬ (nm.size : Int) > 24 := by omega
    clear h hn
    go_enter Tryd.func74, Tryd.ntmps74
    go_upto_region 3 with fail
    have HS := Lib.hid (HS0.out.guard ((Kept.refl w).alloc (.cells #[.string nm, .string x, .bool rm] 69)))
    have OC := Lib.hid (Own.new w 69 [.string nm, .string x, .bool rm])
    have HLT := Lib.hid OC.out.lt
    have HTA : Hid (Kept w (w.alloc (.cells #[.string nm, .string x, .bool rm] 69))) := (Kept.refl w).alloc _
    generalize (w.alloc (.cells #[.string nm, .string x, .bool rm] 69)) = w1 at *
    obtain ⟨g, q0, q1, wv, hS⟩ := HS.out
    have HSV := Lib.hid hS
    have OS := Lib.hid hS.st
    have OL := Lib.hid hS.sl
    have HLN := Lib.hid hS.len
    have hcb : ¬ False := id
    clear hS HS hcb
    have HFI : Hid (∀ w', Own w' g 121 (l.flatMap slotC) → Calls Tryd.prog 75 #[.slice (some ⟨g, 0, none⟩) 32 32, .string nm] w' fun e w'' => e = .returned (.int .i64 (ixI (nameP nm) l)) ∧ Kept w' w'') := fun w' ho => by
      have := find_any l g 32 nm w' ho (by rw [HLN.out]; omega)
      rwa [HLN.out] at this
    have K : Kept w1 w1 := Kept.refl _
    have CC0 : ∀ W', Kept w1 W' → W'.cell? ⟨w.heap.size, 0, none⟩ = some (.string nm) := fun W' hk => (OC.out.kept hk).cell? 0
    have CC1 : ∀ W', Kept w1 W' → W'.cell? ⟨w.heap.size, 1, none⟩ = some (.string x) := fun W' hk => (OC.out.kept hk).cell? 1
    have CC2 : ∀ W', Kept w1 W' → W'.cell? ⟨w.heap.size, 2, none⟩ = some (.bool rm) := fun W' hk => (OC.out.kept hk).cell? 2
    have CS0 : ∀ W', Kept w1 W' → W'.cell? ⟨s, 0, none⟩ = some (.slice (some ⟨g, 0, none⟩) 32 32) := fun W' hk => (OS.out.kept hk).cell? 0
    have CS1 : ∀ W', Kept w1 W' → W'.cell? ⟨s, 1, none⟩ = some (.pointer (some ⟨q0, 0, none⟩)) := fun W' hk => (OS.out.kept hk).cell? 1
    have CS2 : ∀ W', Kept w1 W' → W'.cell? ⟨s, 2, none⟩ = some (.pointer (some ⟨q1, 0, none⟩)) := fun W' hk => (OS.out.kept hk).cell? 2
    have CS3 : ∀ W', Kept w1 W' → W'.cell? ⟨s, 3, none⟩ = some (wv) := fun W' hk => (OS.out.kept hk).cell? 3
    refine wp_region_Z (S := fun W' => Kept w1 W') (Z := []) (by kernel_rfl) ((Kept.refl w1).drew) (fun hHeld => ?_)
    have kr := (Kept.refl w1).drew
    have Kr := K
    have zr := K.size
    have OCr := OC
    have OSr := OS
    have OLr := OL
    replace OC := Lib.hid (OCr.out.kept kr)
    replace OS := Lib.hid (OSr.out.kept kr)
    replace OL := Lib.hid (OLr.out.kept kr)
    replace K := Kr.trans kr
    generalize w1.drew = w2 at *
    refine wpAnyZ_take (i := 0) (oi := { dst := some 19, op := Op.move (Operand.tmp 0), type := 149, pos := "store.go:134", after := #[], guard := none }) (v := ?_) rfl (by kernel_rfl) (fun _ _ _ h => h) (Or.inl ⟨by rfl, ?_⟩) (by assumption) ?_
    rotate_left
    · (intro wz hSw; (try dsimp only at hSw); go_simp; (try with_reducible rfl))
    (try simp only [Act.put, List.setIfInBounds_toArray, List.set_cons_zero, List.set_cons_succ])
    refine wpAnyZ_take (i := 1) (oi := { dst := some 20, op := Op.nilCheck (Operand.tmp 19), type := 0, pos := "store.go:134", after := #[{ on := 0, ground := Ground.data }], guard := none }) (v := ?_) rfl (by kernel_rfl) (fun _ _ _ h => h) (Or.inl ⟨by rfl, ?_⟩) (by assumption) ?_
    rotate_left
    · (intro wz hSw; (try dsimp only at hSw); go_simp; (try with_reducible rfl))
    (try simp only [Act.put, List.setIfInBounds_toArray, List.set_cons_zero, List.set_cons_succ])
    refine wpAnyZ_take (i := 2) (oi := { dst := some 21, op := Op.fieldAddr 127 (Operand.tmp 20) 0, type := 0, pos := "store.go:134", after := #[{ on := 1, ground := Ground.data }], guard := none }) (v := ?_) rfl (by kernel_rfl) (fun _ _ _ h => h) (Or.inl ⟨by rfl, ?_⟩) (by assumption) ?_
    rotate_left
    · (intro wz hSw; (try dsimp only at hSw); go_simp; (try with_reducible rfl))
    (try simp only [Act.put, List.setIfInBounds_toArray, List.set_cons_zero, List.set_cons_succ])
    refine wpAnyZ_take (i := 3) (oi := { dst := some 22, op := Op.load 118 (Operand.tmp 21), type := 118, pos := "store.go:134", after := #[{ on := 2, ground := Ground.data }], guard := none }) (v := ?_) rfl (by kernel_rfl) (fun _ _ _ h => h) (Or.inl ⟨by rfl, ?_⟩) (by assumption) ?_
    rotate_left
    · (intro wz hSw; (try dsimp only at hSw); go_simp; (try with_reducible rfl))
    (try simp only [Act.put, List.setIfInBounds_toArray, List.set_cons_zero, List.set_cons_succ])
    refine wpAnyZ_take (i := 4) (oi := { dst := some 23, op := Op.fieldAddr 69 (Operand.tmp 3) 0, type := 0, pos := "store.go:134", after := #[], guard := none }) (v := ?_) rfl (by kernel_rfl) (fun _ _ _ h => h) (Or.inl ⟨by rfl, ?_⟩) (by assumption) ?_
    rotate_left
    · (intro wz hSw; (try dsimp only at hSw); go_simp; (try with_reducible rfl))
    (try simp only [Act.put, List.setIfInBounds_toArray, List.set_cons_zero, List.set_cons_succ])
    refine wpAnyZ_take (i := 5) (oi := { dst := some 24, op := Op.load 9 (Operand.tmp 23), type := 9, pos := "store.go:134", after := #[{ on := 4, ground := Ground.data }], guard := none }) (v := ?_) rfl (by kernel_rfl) (fun _ _ _ h => h) (Or.inl ⟨by rfl, ?_⟩) (by assumption) ?_
    rotate_left
    · (intro wz hSw; (try dsimp only at hSw); go_simp; (try with_reducible rfl))
    (try simp only [Act.put, List.setIfInBounds_toArray, List.set_cons_zero, List.set_cons_succ])
    refine wpAnyZ_ready (rs := [6]) (by kernel_rfl) (by simp) ?_
    refine AllReadyZ.cons (o := { dst := some 25, op := Op.call { callee := Callee.value (Operand.func 75), args := #[Operand.tmp 22, Operand.tmp 24], argTypes := #[118, 9] }, type := 3, pos := "store.go:134", after := #[{ on := 3, ground := Ground.data }, { on := 5, ground := Ground.data }], guard := none }) rfl (fun KK hKK => ?_) AllReadyZ.nil
    go_simp
    refine (HFI.out _ OL.out).mono ?_
    rintro e w3 ⟨rfl, hk⟩
    clear hHeld
    replace kr := kr.trans hk
    replace OC := Lib.hid (OCr.out.kept kr)
    replace OS := Lib.hid (OSr.out.kept kr)
    replace OL := Lib.hid (OLr.out.kept kr)
    replace K := Kr.trans kr
    clear hk
    go_simp
    refine hKK.out _ _ ?_ (fun hHeld => ?_)
    · exact kr
    clear hKK KK
    (try simp only [Act.put, List.setIfInBounds_toArray, List.set_cons_zero, List.set_cons_succ])
    refine wpAnyZ_take (i := 7) (oi := { dst := some 5, op := Op.assign (Operand.tmp 25), type := 3, pos := "store.go:134", after := #[{ on := 6, ground := Ground.data }, { on := 6, ground := Ground.chain }, { on := 0, ground := Ground.phase }, { on := 1, ground := Ground.phase }, { on := 2, ground := Ground.phase }, { on := 3, ground := Ground.phase }, { on := 4, ground := Ground.phase }, { on := 5, ground := Ground.phase }, { on := 6, ground := Ground.phase }], guard := none }) (v := ?_) rfl (by kernel_rfl) (fun _ _ _ h => h) (Or.inl ⟨by rfl, ?_⟩) (by assumption) ?_
    rotate_left
    · (intro wz hSw; (try dsimp only at hSw); go_simp; (try with_reducible rfl))
    (try simp only [Act.put, List.setIfInBounds_toArray, List.set_cons_zero, List.set_cons_succ])
    refine wpAnyZ_done (by kernel_rfl) ?_ _
    clear CC0 CC1 CC2 CS0 CS1 CS2 CS3 OCr OSr OLr Kr zr hHeld kr
    replace HSV := Lib.hid (HSV.out.go K)
    have HTB := Lib.hid (HTA.out.trans K)
    have HQ : Hid (ixI (nameP nm) l = ixI (nameP nm) l) := rfl
    clear HTA K HFI HQ
    have HST := Lib.hid (show StAt _ V0 V1 w3 s l t0 t1 ws from ⟨g, q0, q1, wv, HSV.out⟩)
    have cC0 := OC.out.cell? 0
    have cC1 := OC.out.cell? 1
    have cC2 := OC.out.cell? 2
    simp only [List.getElem?_cons_zero, List.getElem?_cons_succ] at cC0 cC1 cC2
    cases rm with
    | true =>
      rcases ixI_cases (nameP nm) l with ⟨hi, _⟩ | ⟨k, hk, hi, hp⟩
      · skip
        have HE : Hid (changeR ⟨l, t0, t1, ws⟩ ⟨nm, x, true⟩ = (6, ⟨l, t0, t1, ws⟩)) := by show _ = _; unfold changeR; rw [if_neg (by simp only [not_or]; omega), if_pos rfl]; simp only [hi]; rfl
        rw [hi]
        clear hi
        go_wp2
        go_ret
        exact ⟨by rw [HE.out]; rfl, by rw [HE.out]; exact HST.out.weak fun j h => .inl h, Turn.of_kept HTB.out⟩
      · skip
        have HE : Hid (changeR ⟨l, t0, t1, ws⟩ ⟨nm, x, true⟩ = (0, Sto.put ⟨l, t0, t1, ws⟩ k slot0)) := by show _ = _; unfold changeR; rw [if_neg (by simp only [not_or]; omega), if_pos rfl]; simp only [hi]; rw [if_neg (by omega)]; rfl
        have hk32 : k < 32 := by rw [HLN.out] at hk; exact hk
        have i2 : ¬ (k : Int) < 0 := by omega
        rw [hi]
        clear hi hp
        go_wp2_with fail
        refine (set_any _ V0 V1 s k l t0 t1 ws slot0 _ HST.out hk32 (by decide) (by decide) (by have := HWS.out; omega)).mono ?_
        rintro e w9 ⟨rfl, hst, ht⟩
        have HST9 := Lib.hid hst
        have HT9 := Lib.hid ht
        clear hst ht
        go_wp2
        go_ret
        exact ⟨by rw [HE.out]; rfl, by rw [HE.out]; exact HST9.out.weak fun j h => .inl h, (Turn.of_kept HTB.out).trans (HT9.out.mono fun j h hv => h (.inl hv))⟩
    | false =>
      by_cases hx : 1024 < x.size
      · skip
        have HE : Hid (changeR ⟨l, t0, t1, ws⟩ ⟨nm, x, false⟩ = (4, ⟨l, t0, t1, ws⟩)) := by show _ = _; unfold changeR; rw [if_neg (by simp only [not_or]; omega), if_neg (by simp), if_pos hx]
        have g3 : (x.size : Int) > 1024 := by omega
        clear hx
        go_wp2
        go_ret
        exact ⟨by rw [HE.out]; rfl, by rw [HE.out]; exact HST.out.weak fun j h => .inl h, Turn.of_kept HTB.out⟩
      have g3 : ¬ (x.size : Int) > 1024 := by omega
      have HEQ : Hid (∀ k : Nat, chgAt ⟨l, t0, t1, ws⟩ ⟨nm, x, false⟩ = (k : Int) → changeR ⟨l, t0, t1, ws⟩ ⟨nm, x, false⟩ = if (takeR (Sto.tk ⟨l, t0, t1, ws⟩ (clsN x.size))).2 then (0, Sto.put { Sto.take ⟨l, t0, t1, ws⟩ (clsN x.size) with ws := ws ++ fillL (clsN x.size) (takeR (Sto.tk ⟨l, t0, t1, ws⟩ (clsN x.size))).1 x } k ⟨true, clsN x.size, (takeR (Sto.tk ⟨l, t0, t1, ws⟩ (clsN x.size))).1, x.size, nm⟩) else (5, Sto.take ⟨l, t0, t1, ws⟩ (clsN x.size))) := fun k hk => by
        unfold changeR
        rw [if_neg (by simp only [not_or]; omega), if_neg (by simp), if_neg hx, hk, if_neg (by omega)]
        rfl
      rcases ixI_cases (nameP nm) l with ⟨hi, _⟩ | ⟨k, hk, hi, hp⟩
      · skip
        rw [hi]
        have HI := Lib.hid hi
        clear hi
        have HFI : Hid (∀ w', Own w' g 121 (l.flatMap slotC) → Calls Tryd.prog 90 #[.slice (some ⟨g, 0, none⟩) 32 32, .func (.func 91) #[] #[]] w' fun e w'' => e = .returned (.int .i64 (ixI freeP l)) ∧ Kept w' w'') := fun w' ho => by
          have := ixf_free l g 32 w' ho (by rw [HLN.out]; omega)
          rwa [HLN.out] at this
        have cS0 := OS.out.cell? 0
        have zS := OS.out.lt
        simp only [List.getElem?_cons_zero, List.getElem?_cons_succ] at cS0
        go_wp2_with fail
        refine (HFI.out _ OL.out).mono ?_
        rintro e w4 ⟨rfl, hk4⟩
        clear HFI cS0 zS cC0 cC1 cC2
        replace HSV := Lib.hid (HSV.out.go hk4)
        replace HST := Lib.hid (HST.out.go hk4)
        replace HTB := Lib.hid (HTB.out.trans hk4)
        replace OS := Lib.hid (OS.out.kept hk4)
        replace OL := Lib.hid (OL.out.kept hk4)
        replace OC := Lib.hid (OC.out.kept hk4)
        clear hk4
        rcases ixI_cases freeP l with ⟨hi, _⟩ | ⟨k, hk, hi, hp⟩
        · skip
          have HE : Hid (changeR ⟨l, t0, t1, ws⟩ ⟨nm, x, false⟩ = (5, ⟨l, t0, t1, ws⟩)) := by
            show _ = _
            have hca : chgAt ⟨l, t0, t1, ws⟩ ⟨nm, x, false⟩ = -1 := by unfold chgAt; simp only [HI.out, hi]; rfl
            unfold changeR
            rw [if_neg (by simp only [not_or]; omega), if_neg (by simp), if_neg hx, hca, if_pos (by omega)]
          rw [hi]
          clear hi
          go_wp2
          go_ret
          exact ⟨by rw [HE.out]; rfl, by rw [HE.out]; exact HST.out.weak fun j h => .inl h, Turn.of_kept HTB.out⟩
        · skip
          have hca : chgAt ⟨l, t0, t1, ws⟩ ⟨nm, x, false⟩ = (k : Int) := by unfold chgAt; simp only [HI.out, hi]; rfl
          rw [hi]
          have HEK := Lib.hid (HEQ.out k hca)
          have hk32 : k < 32 := by rw [HLN.out] at hk; exact hk
          have HK32 := Lib.hid hk32
          have i2 : ¬ (k : Int) < 0 := by omega
          clear hca hi hp hk hk32 HEQ
          go_upto_region 16 with fail
          clear i2
          have HCP : Hid (∀ w', Calls Tryd.prog 92 #[.int .i64 0] w' fun e w'' => e = .returned (.int .i64 (capN 0 : Nat)) ∧ Kept w' w'') := fun w' => (cap_any 0 w').mono fun _ _ h => ⟨h.1, h.2 ▸ Kept.refl _⟩
          have K : Kept w4 w4 := Kept.refl _
          have CC0 : ∀ W', Kept w4 W' → W'.cell? ⟨w.heap.size, 0, none⟩ = some (.string nm) := fun W' hk => (OC.out.kept hk).cell? 0
          have CC1 : ∀ W', Kept w4 W' → W'.cell? ⟨w.heap.size, 1, none⟩ = some (.string x) := fun W' hk => (OC.out.kept hk).cell? 1
          have CC2 : ∀ W', Kept w4 W' → W'.cell? ⟨w.heap.size, 2, none⟩ = some (.bool false) := fun W' hk => (OC.out.kept hk).cell? 2
          refine wp_region_Z (S := fun W' => Kept w4 W') (Z := []) (by kernel_rfl) ((Kept.refl w4).drew) (fun hHeld => ?_)
          have kr := (Kept.refl w4).drew
          have Kr := K
          have zr := K.size
          have OCr := OC
          have OSr := OS
          have OLr := OL
          replace OC := Lib.hid (OCr.out.kept kr)
          replace OS := Lib.hid (OSr.out.kept kr)
          replace OL := Lib.hid (OLr.out.kept kr)
          replace K := Kr.trans kr
          generalize w4.drew = w5 at *
          refine wpAnyZ_take (i := 0) (oi := { dst := some 47, op := Op.fieldAddr 69 (Operand.tmp 3) 1, type := 0, pos := "store.go:152", after := #[], guard := none }) (v := ?_) rfl (by kernel_rfl) (fun _ _ _ h => h) (Or.inl ⟨by rfl, ?_⟩) (by assumption) ?_
          rotate_left
          · (intro wz hSw; (try dsimp only at hSw); go_simp; (try with_reducible rfl))
          (try simp only [Act.put, List.setIfInBounds_toArray, List.set_cons_zero, List.set_cons_succ])
          refine wpAnyZ_take (i := 1) (oi := { dst := some 48, op := Op.load 9 (Operand.tmp 47), type := 9, pos := "store.go:152", after := #[{ on := 0, ground := Ground.data }], guard := none }) (v := ?_) rfl (by kernel_rfl) (fun _ _ _ h => h) (Or.inl ⟨by rfl, ?_⟩) (by assumption) ?_
          rotate_left
          · (intro wz hSw; (try dsimp only at hSw); go_simp; (try with_reducible rfl))
          (try simp only [Act.put, List.setIfInBounds_toArray, List.set_cons_zero, List.set_cons_succ])
          refine wpAnyZ_take (i := 2) (oi := { dst := some 49, op := Op.call { callee := Callee.builtin Builtin.len, args := #[Operand.tmp 48], argTypes := #[9] }, type := 3, pos := "store.go:152", after := #[{ on := 1, ground := Ground.data }], guard := none }) (v := ?_) rfl (by kernel_rfl) (fun _ _ _ h => h) (Or.inl ⟨by rfl, ?_⟩) (by assumption) ?_
          rotate_left
          · (intro wz hSw; (try dsimp only at hSw); go_simp; (try with_reducible rfl))
          (try simp only [Act.put, List.setIfInBounds_toArray, List.set_cons_zero, List.set_cons_succ])
          refine wpAnyZ_ready (rs := [3]) (by kernel_rfl) (by simp) ?_
          refine AllReadyZ.cons (o := { dst := some 50, op := Op.call { callee := Callee.value (Operand.func 92), args := #[Operand.const (Value.int IntKind.i64 0)], argTypes := #[3] }, type := 3, pos := "store.go:152", after := #[], guard := none }) rfl (fun KK hKK => ?_) AllReadyZ.nil
          go_simp
          refine (HCP.out w5).mono ?_
          rintro e w6 ⟨rfl, hk⟩
          clear hHeld
          replace kr := kr.trans hk
          replace OC := Lib.hid (OCr.out.kept kr)
          replace OS := Lib.hid (OSr.out.kept kr)
          replace OL := Lib.hid (OLr.out.kept kr)
          replace K := Kr.trans kr
          clear hk
          go_simp
          refine hKK.out _ _ ?_ (fun hHeld => ?_)
          · exact kr
          clear hKK KK
          (try simp only [Act.put, List.setIfInBounds_toArray, List.set_cons_zero, List.set_cons_succ])
          refine wpAnyZ_take (i := 4) (oi := { dst := some 51, op := Op.binOp BinOp.gtr 3 (Operand.tmp 49) (Operand.tmp 50) 3, type := 4, pos := "store.go:152", after := #[{ on := 2, ground := Ground.data }, { on := 3, ground := Ground.data }], guard := none }) (v := ?_) rfl (by kernel_rfl) (fun _ _ _ h => h) (Or.inl ⟨by rfl, ?_⟩) (by assumption) ?_
          rotate_left
          · (intro wz hSw; (try dsimp only at hSw); go_simp; (try with_reducible rfl))
          (try simp only [Act.put, List.setIfInBounds_toArray, List.set_cons_zero, List.set_cons_succ])
          refine wpAnyZ_done (by kernel_rfl) ?_ _
          clear CC0 CC1 CC2 OCr OSr OLr Kr zr hHeld kr
          replace HSV := Lib.hid (HSV.out.go K)
          replace HTB := Lib.hid (HTB.out.trans K)
          clear K HST
          by_cases hc : capN 0 < x.size
          · skip
            have HCL : Hid (clsN x.size = 1) := by show _ = _; unfold clsN; rw [if_pos hc]
            have g5 : (x.size : Int) > ((capN 0 : Nat) : Int) := by omega
            have HXS : Hid (x.size ≤ capN 1) := by show _ ≤ _; show x.size ≤ 1024; omega
            rw [HCL.out] at HEK
            have cS := OS.out.cell? 2
            have zS := OS.out.lt
            simp only [List.getElem?_cons_zero, List.getElem?_cons_succ] at cS
            clear hc HCL
            go_wp2_with fail
            refine (pTake_v V1 q1 t1 _ HSV.out.p1).mono ?_
            rintro e w8 ⟨rfl, hp, hk⟩
            clear cS zS g5
            have HSV8 := Lib.hid (HSV.out.take1 hp hk)
            have HT8 : Hid (Turn (fun k => ¬ V k) w w8) := (Turn.of_kept HTB.out).trans (hk.mono fun j hj hv => hj (HSV.out.sub j (.inl hv)).2)
            have OC8 := Lib.hid (OC.out.turn hk (fun e => e (HSV.out.sub _ (.inr ⟨Nat.le_refl _, HLT.out⟩)).2))
            clear hp hk
            have HB : Hid ((takeR t1).1 ≤ 1000) := Nat.le_trans (takeR_le _) (Nat.le_trans HSV.out.p1.len (by decide))
            have HTK : Sto.tk ⟨l, t0, t1, ws⟩ 1 = t1 := rfl
            rw [HTK] at HEK
            clear HTK HSV HTB OS OL OC
            rcases Bool.eq_false_or_eq_true (takeR t1).2 with ht | ht
            · skip
              have HE := HEK.out
              rw [if_pos ht] at HE
              replace HE := Lib.hid HE
              rw [ht]
              clear ht HEK
              generalize (takeR t1).1 = b at *
              have cC0 := OC8.out.cell? 0
              have cC1 := OC8.out.cell? 1
              have cC2 := OC8.out.cell? 2
              simp only [List.getElem?_cons_zero, List.getElem?_cons_succ] at cC0 cC1 cC2
              go_wp2_with fail
              refine (fill_any _ V0 V1 s 1 b x l t0 (takeT t1) ws w8 ⟨g, q0, q1, wv, HSV8.out⟩ HB.out HXS.out (by have := HWS.out; omega)).mono ?_
              rintro e w9 ⟨rfl, hst, ht⟩
              clear cC0 cC1 cC2
              have HT9 := Lib.hid (HT8.out.trans (ht.mono fun j h hv => h (.inl hv)))
              have OC9 := Lib.hid (OC8.out.turn ht (fun e => e (.inr ⟨Nat.le_refl _, HLT.out⟩)))
              have HST9 := Lib.hid hst
              clear hst ht HSV8 HT8 OC8
              have cC0 := OC9.out.cell? 0
              have cC1 := OC9.out.cell? 1
              have cC2 := OC9.out.cell? 2
              simp only [List.getElem?_cons_zero, List.getElem?_cons_succ] at cC0 cC1 cC2
              go_wp2_with fail
              refine (set_any _ V0 V1 s k l t0 (takeT t1) (ws ++ fillL 1 b x) ⟨true, 1, b, x.size, nm⟩ w9 HST9.out HK32.out (by have := HXS.out; have := capN_le 1; show x.size ≤ _; omega) (by show nm.size ≤ _; omega) (by rw [List.length_append, fillL_len]; have := HWS.out; have := countN_le 1; omega)).mono ?_
              rintro e w10 ⟨rfl, hst, ht⟩
              have HTA := Lib.hid (HT9.out.trans (ht.mono fun j h hv => h (.inl hv)))
              have HSTA := Lib.hid hst
              clear hst ht cC0 cC1 cC2
              go_wp2
              go_ret
              exact ⟨by rw [HE.out]; rfl, by rw [HE.out]; exact HSTA.out.weak fun j h => .inl h, HTA.out⟩
            · skip
              have HE := HEK.out
              rw [if_neg (by rw [ht]; simp)] at HE
              replace HE := Lib.hid HE
              rw [ht]
              clear ht HEK
              go_wp2
              go_ret
              exact ⟨by rw [HE.out]; rfl, by rw [HE.out]; exact StAt.weak ⟨g, q0, q1, wv, HSV8.out⟩ fun j h => .inl h, HT8.out⟩
          · skip
            have HCL : Hid (clsN x.size = 0) := by show _ = _; unfold clsN; rw [if_neg hc]
            have g5 : ¬ (x.size : Int) > ((capN 0 : Nat) : Int) := by omega
            have HXS : Hid (x.size ≤ capN 0) := by show _ ≤ _; omega
            rw [HCL.out] at HEK
            have cS := OS.out.cell? 1
            have zS := OS.out.lt
            simp only [List.getElem?_cons_zero, List.getElem?_cons_succ] at cS
            clear hc HCL
            go_wp2_with fail
            refine (pTake_v V0 q0 t0 _ HSV.out.p0).mono ?_
            rintro e w8 ⟨rfl, hp, hk⟩
            clear cS zS g5
            have HSV8 := Lib.hid (HSV.out.take0 hp hk)
            have HT8 : Hid (Turn (fun k => ¬ V k) w w8) := (Turn.of_kept HTB.out).trans (hk.mono fun j hj hv => hj (HSV.out.sub j (.inl hv)).1)
            have OC8 := Lib.hid (OC.out.turn hk (fun e => e (HSV.out.sub _ (.inr ⟨Nat.le_refl _, HLT.out⟩)).1))
            clear hp hk
            have HB : Hid ((takeR t0).1 ≤ 1000) := Nat.le_trans (takeR_le _) (Nat.le_trans HSV.out.p0.len (by decide))
            have HTK : Sto.tk ⟨l, t0, t1, ws⟩ 0 = t0 := rfl
            rw [HTK] at HEK
            clear HTK HSV HTB OS OL OC
            rcases Bool.eq_false_or_eq_true (takeR t0).2 with ht | ht
            · skip
              have HE := HEK.out
              rw [if_pos ht] at HE
              replace HE := Lib.hid HE
              rw [ht]
              clear ht HEK
              generalize (takeR t0).1 = b at *
              have cC0 := OC8.out.cell? 0
              have cC1 := OC8.out.cell? 1
              have cC2 := OC8.out.cell? 2
              simp only [List.getElem?_cons_zero, List.getElem?_cons_succ] at cC0 cC1 cC2
              go_wp2_with fail
              refine (fill_any _ V0 V1 s 0 b x l (takeT t0) t1 ws w8 ⟨g, q0, q1, wv, HSV8.out⟩ HB.out HXS.out (by have := HWS.out; omega)).mono ?_
              rintro e w9 ⟨rfl, hst, ht⟩
              clear cC0 cC1 cC2
              have HT9 := Lib.hid (HT8.out.trans (ht.mono fun j h hv => h (.inl hv)))
              have OC9 := Lib.hid (OC8.out.turn ht (fun e => e (.inr ⟨Nat.le_refl _, HLT.out⟩)))
              have HST9 := Lib.hid hst
              clear hst ht HSV8 HT8 OC8
              have cC0 := OC9.out.cell? 0
              have cC1 := OC9.out.cell? 1
              have cC2 := OC9.out.cell? 2
              simp only [List.getElem?_cons_zero, List.getElem?_cons_succ] at cC0 cC1 cC2
              go_wp2_with fail
              refine (set_any _ V0 V1 s k l (takeT t0) t1 (ws ++ fillL 0 b x) ⟨true, 0, b, x.size, nm⟩ w9 HST9.out HK32.out (by have := HXS.out; have := capN_le 0; show x.size ≤ _; omega) (by show nm.size ≤ _; omega) (by rw [List.length_append, fillL_len]; have := HWS.out; have := countN_le 0; omega)).mono ?_
              rintro e w10 ⟨rfl, hst, ht⟩
              have HTA := Lib.hid (HT9.out.trans (ht.mono fun j h hv => h (.inl hv)))
              have HSTA := Lib.hid hst
              clear hst ht cC0 cC1 cC2
              go_wp2
              go_ret
              exact ⟨by rw [HE.out]; rfl, by rw [HE.out]; exact HSTA.out.weak fun j h => .inl h, HTA.out⟩
            · skip
              have HE := HEK.out
              rw [if_neg (by rw [ht]; simp)] at HE
              replace HE := Lib.hid HE
              rw [ht]
              clear ht HEK
              go_wp2
              go_ret
              exact ⟨by rw [HE.out]; rfl, by rw [HE.out]; exact StAt.weak ⟨g, q0, q1, wv, HSV8.out⟩ fun j h => .inl h, HT8.out⟩
      · skip
        have hca : chgAt ⟨l, t0, t1, ws⟩ ⟨nm, x, false⟩ = (k : Int) := by unfold chgAt; simp only [hi]; rw [if_neg (by omega)]
        rw [hi]
        have HEK := Lib.hid (HEQ.out k hca)
        have hk32 : k < 32 := by rw [HLN.out] at hk; exact hk
        have HK32 := Lib.hid hk32
        have i2 : ¬ (k : Int) < 0 := by omega
        clear hca hi hp hk hk32 HEQ
        go_upto_region 16 with fail
        clear i2 cC0 cC1 cC2
        have HCP : Hid (∀ w', Calls Tryd.prog 92 #[.int .i64 0] w' fun e w'' => e = .returned (.int .i64 (capN 0 : Nat)) ∧ Kept w' w'') := fun w' => (cap_any 0 w').mono fun _ _ h => ⟨h.1, h.2 ▸ Kept.refl _⟩
        have K : Kept w3 w3 := Kept.refl _
        have CC0 : ∀ W', Kept w3 W' → W'.cell? ⟨w.heap.size, 0, none⟩ = some (.string nm) := fun W' hk => (OC.out.kept hk).cell? 0
        have CC1 : ∀ W', Kept w3 W' → W'.cell? ⟨w.heap.size, 1, none⟩ = some (.string x) := fun W' hk => (OC.out.kept hk).cell? 1
        have CC2 : ∀ W', Kept w3 W' → W'.cell? ⟨w.heap.size, 2, none⟩ = some (.bool false) := fun W' hk => (OC.out.kept hk).cell? 2
        refine wp_region_Z (S := fun W' => Kept w3 W') (Z := []) (by kernel_rfl) ((Kept.refl w3).drew) (fun hHeld => ?_)
        have kr := (Kept.refl w3).drew
        have Kr := K
        have zr := K.size
        have OCr := OC
        have OSr := OS
        have OLr := OL
        replace OC := Lib.hid (OCr.out.kept kr)
        replace OS := Lib.hid (OSr.out.kept kr)
        replace OL := Lib.hid (OLr.out.kept kr)
        replace K := Kr.trans kr
        generalize w3.drew = w4 at *
        refine wpAnyZ_take (i := 0) (oi := { dst := some 47, op := Op.fieldAddr 69 (Operand.tmp 3) 1, type := 0, pos := "store.go:152", after := #[], guard := none }) (v := ?_) rfl (by kernel_rfl) (fun _ _ _ h => h) (Or.inl ⟨by rfl, ?_⟩) (by assumption) ?_
        rotate_left
        · (intro wz hSw; (try dsimp only at hSw); go_simp; (try with_reducible rfl))
        (try simp only [Act.put, List.setIfInBounds_toArray, List.set_cons_zero, List.set_cons_succ])
        refine wpAnyZ_take (i := 1) (oi := { dst := some 48, op := Op.load 9 (Operand.tmp 47), type := 9, pos := "store.go:152", after := #[{ on := 0, ground := Ground.data }], guard := none }) (v := ?_) rfl (by kernel_rfl) (fun _ _ _ h => h) (Or.inl ⟨by rfl, ?_⟩) (by assumption) ?_
        rotate_left
        · (intro wz hSw; (try dsimp only at hSw); go_simp; (try with_reducible rfl))
        (try simp only [Act.put, List.setIfInBounds_toArray, List.set_cons_zero, List.set_cons_succ])
        refine wpAnyZ_take (i := 2) (oi := { dst := some 49, op := Op.call { callee := Callee.builtin Builtin.len, args := #[Operand.tmp 48], argTypes := #[9] }, type := 3, pos := "store.go:152", after := #[{ on := 1, ground := Ground.data }], guard := none }) (v := ?_) rfl (by kernel_rfl) (fun _ _ _ h => h) (Or.inl ⟨by rfl, ?_⟩) (by assumption) ?_
        rotate_left
        · (intro wz hSw; (try dsimp only at hSw); go_simp; (try with_reducible rfl))
        (try simp only [Act.put, List.setIfInBounds_toArray, List.set_cons_zero, List.set_cons_succ])
        refine wpAnyZ_ready (rs := [3]) (by kernel_rfl) (by simp) ?_
        refine AllReadyZ.cons (o := { dst := some 50, op := Op.call { callee := Callee.value (Operand.func 92), args := #[Operand.const (Value.int IntKind.i64 0)], argTypes := #[3] }, type := 3, pos := "store.go:152", after := #[], guard := none }) rfl (fun KK hKK => ?_) AllReadyZ.nil
        go_simp
        refine (HCP.out w4).mono ?_
        rintro e w5 ⟨rfl, hk⟩
        clear hHeld
        replace kr := kr.trans hk
        replace OC := Lib.hid (OCr.out.kept kr)
        replace OS := Lib.hid (OSr.out.kept kr)
        replace OL := Lib.hid (OLr.out.kept kr)
        replace K := Kr.trans kr
        clear hk
        go_simp
        refine hKK.out _ _ ?_ (fun hHeld => ?_)
        · exact kr
        clear hKK KK
        (try simp only [Act.put, List.setIfInBounds_toArray, List.set_cons_zero, List.set_cons_succ])
        refine wpAnyZ_take (i := 4) (oi := { dst := some 51, op := Op.binOp BinOp.gtr 3 (Operand.tmp 49) (Operand.tmp 50) 3, type := 4, pos := "store.go:152", after := #[{ on := 2, ground := Ground.data }, { on := 3, ground := Ground.data }], guard := none }) (v := ?_) rfl (by kernel_rfl) (fun _ _ _ h => h) (Or.inl ⟨by rfl, ?_⟩) (by assumption) ?_
        rotate_left
        · (intro wz hSw; (try dsimp only at hSw); go_simp; (try with_reducible rfl))
        (try simp only [Act.put, List.setIfInBounds_toArray, List.set_cons_zero, List.set_cons_succ])
        refine wpAnyZ_done (by kernel_rfl) ?_ _
        clear CC0 CC1 CC2 OCr OSr OLr Kr zr hHeld kr
        replace HSV := Lib.hid (HSV.out.go K)
        replace HTB := Lib.hid (HTB.out.trans K)
        clear K HST
        by_cases hc : capN 0 < x.size
        · skip
          have HCL : Hid (clsN x.size = 1) := by show _ = _; unfold clsN; rw [if_pos hc]
          have g5 : (x.size : Int) > ((capN 0 : Nat) : Int) := by omega
          have HXS : Hid (x.size ≤ capN 1) := by show _ ≤ _; show x.size ≤ 1024; omega
          rw [HCL.out] at HEK
          have cS := OS.out.cell? 2
          have zS := OS.out.lt
          simp only [List.getElem?_cons_zero, List.getElem?_cons_succ] at cS
          clear hc HCL
          go_wp2_with fail
          refine (pTake_v V1 q1 t1 _ HSV.out.p1).mono ?_
          rintro e w8 ⟨rfl, hp, hk⟩
          clear cS zS g5
          have HSV8 := Lib.hid (HSV.out.take1 hp hk)
          have HT8 : Hid (Turn (fun k => ¬ V k) w w8) := (Turn.of_kept HTB.out).trans (hk.mono fun j hj hv => hj (HSV.out.sub j (.inl hv)).2)
          have OC8 := Lib.hid (OC.out.turn hk (fun e => e (HSV.out.sub _ (.inr ⟨Nat.le_refl _, HLT.out⟩)).2))
          clear hp hk
          have HB : Hid ((takeR t1).1 ≤ 1000) := Nat.le_trans (takeR_le _) (Nat.le_trans HSV.out.p1.len (by decide))
          have HTK : Sto.tk ⟨l, t0, t1, ws⟩ 1 = t1 := rfl
          rw [HTK] at HEK
          clear HTK HSV HTB OS OL OC
          rcases Bool.eq_false_or_eq_true (takeR t1).2 with ht | ht
          · skip
            have HE := HEK.out
            rw [if_pos ht] at HE
            replace HE := Lib.hid HE
            rw [ht]
            clear ht HEK
            generalize (takeR t1).1 = b at *
            have cC0 := OC8.out.cell? 0
            have cC1 := OC8.out.cell? 1
            have cC2 := OC8.out.cell? 2
            simp only [List.getElem?_cons_zero, List.getElem?_cons_succ] at cC0 cC1 cC2
            go_wp2_with fail
            refine (fill_any _ V0 V1 s 1 b x l t0 (takeT t1) ws w8 ⟨g, q0, q1, wv, HSV8.out⟩ HB.out HXS.out (by have := HWS.out; omega)).mono ?_
            rintro e w9 ⟨rfl, hst, ht⟩
            clear cC0 cC1 cC2
            have HT9 := Lib.hid (HT8.out.trans (ht.mono fun j h hv => h (.inl hv)))
            have OC9 := Lib.hid (OC8.out.turn ht (fun e => e (.inr ⟨Nat.le_refl _, HLT.out⟩)))
            have HST9 := Lib.hid hst
            clear hst ht HSV8 HT8 OC8
            have cC0 := OC9.out.cell? 0
            have cC1 := OC9.out.cell? 1
            have cC2 := OC9.out.cell? 2
            simp only [List.getElem?_cons_zero, List.getElem?_cons_succ] at cC0 cC1 cC2
            go_wp2_with fail
            refine (set_any _ V0 V1 s k l t0 (takeT t1) (ws ++ fillL 1 b x) ⟨true, 1, b, x.size, nm⟩ w9 HST9.out HK32.out (by have := HXS.out; have := capN_le 1; show x.size ≤ _; omega) (by show nm.size ≤ _; omega) (by rw [List.length_append, fillL_len]; have := HWS.out; have := countN_le 1; omega)).mono ?_
            rintro e w10 ⟨rfl, hst, ht⟩
            have HTA := Lib.hid (HT9.out.trans (ht.mono fun j h hv => h (.inl hv)))
            have HSTA := Lib.hid hst
            clear hst ht cC0 cC1 cC2
            go_wp2
            go_ret
            exact ⟨by rw [HE.out]; rfl, by rw [HE.out]; exact HSTA.out.weak fun j h => .inl h, HTA.out⟩
          · skip
            have HE := HEK.out
            rw [if_neg (by rw [ht]; simp)] at HE
            replace HE := Lib.hid HE
            rw [ht]
            clear ht HEK
            go_wp2
            go_ret
            exact ⟨by rw [HE.out]; rfl, by rw [HE.out]; exact StAt.weak ⟨g, q0, q1, wv, HSV8.out⟩ fun j h => .inl h, HT8.out⟩
        · skip
          have HCL : Hid (clsN x.size = 0) := by show _ = _; unfold clsN; rw [if_neg hc]
          have g5 : ¬ (x.size : Int) > ((capN 0 : Nat) : Int) := by omega
          have HXS : Hid (x.size ≤ capN 0) := by show _ ≤ _; omega
          rw [HCL.out] at HEK
          have cS := OS.out.cell? 1
          have zS := OS.out.lt
          simp only [List.getElem?_cons_zero, List.getElem?_cons_succ] at cS
          clear hc HCL
          go_wp2_with fail
          refine (pTake_v V0 q0 t0 _ HSV.out.p0).mono ?_
          rintro e w8 ⟨rfl, hp, hk⟩
          clear cS zS g5
          have HSV8 := Lib.hid (HSV.out.take0 hp hk)
          have HT8 : Hid (Turn (fun k => ¬ V k) w w8) := (Turn.of_kept HTB.out).trans (hk.mono fun j hj hv => hj (HSV.out.sub j (.inl hv)).1)
          have OC8 := Lib.hid (OC.out.turn hk (fun e => e (HSV.out.sub _ (.inr ⟨Nat.le_refl _, HLT.out⟩)).1))
          clear hp hk
          have HB : Hid ((takeR t0).1 ≤ 1000) := Nat.le_trans (takeR_le _) (Nat.le_trans HSV.out.p0.len (by decide))
          have HTK : Sto.tk ⟨l, t0, t1, ws⟩ 0 = t0 := rfl
          rw [HTK] at HEK
          clear HTK HSV HTB OS OL OC
          rcases Bool.eq_false_or_eq_true (takeR t0).2 with ht | ht
          · skip
            have HE := HEK.out
            rw [if_pos ht] at HE
            replace HE := Lib.hid HE
            rw [ht]
            clear ht HEK
            generalize (takeR t0).1 = b at *
            have cC0 := OC8.out.cell? 0
            have cC1 := OC8.out.cell? 1
            have cC2 := OC8.out.cell? 2
            simp only [List.getElem?_cons_zero, List.getElem?_cons_succ] at cC0 cC1 cC2
            go_wp2_with fail
            refine (fill_any _ V0 V1 s 0 b x l (takeT t0) t1 ws w8 ⟨g, q0, q1, wv, HSV8.out⟩ HB.out HXS.out (by have := HWS.out; omega)).mono ?_
            rintro e w9 ⟨rfl, hst, ht⟩
            clear cC0 cC1 cC2
            have HT9 := Lib.hid (HT8.out.trans (ht.mono fun j h hv => h (.inl hv)))
            have OC9 := Lib.hid (OC8.out.turn ht (fun e => e (.inr ⟨Nat.le_refl _, HLT.out⟩)))
            have HST9 := Lib.hid hst
            clear hst ht HSV8 HT8 OC8
            have cC0 := OC9.out.cell? 0
            have cC1 := OC9.out.cell? 1
            have cC2 := OC9.out.cell? 2
            simp only [List.getElem?_cons_zero, List.getElem?_cons_succ] at cC0 cC1 cC2
            go_wp2_with fail
            refine (set_any _ V0 V1 s k l (takeT t0) t1 (ws ++ fillL 0 b x) ⟨true, 0, b, x.size, nm⟩ w9 HST9.out HK32.out (by have := HXS.out; have := capN_le 0; show x.size ≤ _; omega) (by show nm.size ≤ _; omega) (by rw [List.length_append, fillL_len]; have := HWS.out; have := countN_le 0; omega)).mono ?_
            rintro e w10 ⟨rfl, hst, ht⟩
            have HTA := Lib.hid (HT9.out.trans (ht.mono fun j h hv => h (.inl hv)))
            have HSTA := Lib.hid hst
            clear hst ht cC0 cC1 cC2
            go_wp2
            go_ret
            exact ⟨by rw [HE.out]; rfl, by rw [HE.out]; exact HSTA.out.weak fun j h => .inl h, HTA.out⟩
          · skip
            have HE := HEK.out
            rw [if_neg (by rw [ht]; simp)] at HE
            replace HE := Lib.hid HE
            rw [ht]
            clear ht HEK
            go_wp2
            go_ret
            exact ⟨by rw [HE.out]; rfl, by rw [HE.out]; exact StAt.weak ⟨g, q0, q1, wv, HSV8.out⟩ fun j h => .inl h, HT8.out⟩
end Go.Proofs.YtagpimahicgkmaaDoor

/-! A store's state when it is made. -/
namespace Go.Proofs.YtagpimahicgkmaaDoor
open Go.RowKit

/-- A new pool lies between the blocks that were, and those that come. -/
theorem PoolV.range {w : World} {base g : Nat} {tk : List Bool} (h : PoolAt w base g tk) : PoolV w (fun k => k < base ∨ w.heap.size ≤ k) g tk := by
  obtain ⟨tb, fv, fr, h1, h2, h3, h4, h5, h6, h7, h8, h9⟩ := h
  refine ⟨tb, fv, fr, fun e => e.elim h1 (fun e => ?_), fun e => e.elim h2 (fun e => ?_), fun k hk e => e.elim (h3 k hk) (fun e => ?_), h4, h5, h6, h7, h8, h9⟩
  · have := h6.lt; omega
  · have := h7.lt; omega
  · have := (h8.lt k hk).2; omega
theorem PoolV.lt {V : Nat → Prop} {w : World} {g : Nat} {tk : List Bool} (h : PoolV w V g tk) : g < w.heap.size ∧ ¬ V g := by
  obtain ⟨tb, fv, fr, h1, h2, h3, h4, h5, h6, h7, h8, h9⟩ := h; exact ⟨h6.lt, h1⟩
/-- The state that Writes begins with: two pools, made one behind the other; no writes. -/
theorem StAt.start {w : World} {s g q0 q1 a0 b0 a1 b1 : Nat} {l : List Slot} {tk0 tk1 : List Bool} (ho : Own w s 127 [.slice (some ⟨g, 0, none⟩) 32 32, .pointer (some ⟨q0, 0, none⟩), .pointer (some ⟨q1, 0, none⟩), .slice none 0 0]) (hg : Own w g 121 (l.flatMap slotC)) (hl : l.length = 32)
    (hp : PoolV w (fun k => k < a0 ∨ b0 ≤ k) q0 tk0) (hp1 : PoolV w (fun k => k < a1 ∨ b1 ≤ k) q1 tk1) (ha : a0 ≤ a1) (h01 : b0 ≤ a1) (hb : b1 ≤ w.heap.size) (hb0 : b0 ≤ w.heap.size) (hs0 : s < a0) (hs1 : s < a1) (hg0 : g < a0) (hg1 : g < a1) (hsg : s ≠ g) :
    StAt (fun k => k ≠ s ∧ k ≠ g ∧ k < a0) (fun k => k < a0 ∨ b0 ≤ k) (fun k => k < a1 ∨ b1 ≤ k) w s l tk0 tk1 [] := by
  refine ⟨g, q0, q1, .slice none 0 0, ho, hg, hl, World.ownsRow_nil _ _ _ _, hp, hp1, fun k => ?_, fun k hk => ⟨fun h => ?_, .inr (by omega), .inr (by omega)⟩, ⟨fun h => h.1 rfl, .inl hs0, .inl hs1⟩, ⟨fun h => h.2.1 rfl, .inl hg0, .inl hg1⟩, (fun k hk => by cases hk), hsg, (by rintro ⟨⟩), (by rintro ⟨⟩), fun k hk => ⟨.inl hk.2.2, .inl (by have := hk.2.2; omega)⟩⟩
  · show (k < a0 ∨ b0 ≤ k) ∨ (k < a1 ∨ b1 ≤ k)
    omega
  · have := h.2.2; have h9 := hp.lt; have h8 : ¬ (q0 < a0 ∨ b0 ≤ q0) := h9.2; omega
/-- What a store's disk says: its slots, and which blocks they hold. -/
def stoD (d : Dk) : Sto := ⟨slotsL (contD d), takenOf (blocksN 0) (takenI (slotsL (contD d)) 0), takenOf (blocksN 1) (takenI (slotsL (contD d)) 1), []⟩
/-- What Writes tells. -/
def writesR (d : Dk) (cs : List Chg) : List Wr × Int :=
  if storeB d then
    if (changesR (stoD d) cs).1 = 0 then
      if 30 < (changesR (stoD d) cs).2.ws.length then ([], 4) else ((changesR (stoD d) cs).2.ws, 0)
    else ([], (changesR (stoD d) cs).1)
  else ([], 1)
/-- Changes that lie in memory. -/
def ChgsAt (V : List Nat) (w : World) (v : Value) (cs : List Chg) : Prop :=
  ∃ A c, v = .slice A cs.length c ∧ cs.length ≤ c ∧ c ≤ maxLen ∧ Row V w A (cs.flatMap chgC)
theorem ChgsAt.go {V U : List Nat} {w w' : World} {v : Value} {cs : List Chg} (h : ChgsAt V w v cs) (k : Kept w w') (hU : Ext U w V) : ChgsAt U w' v cs := by
  obtain ⟨A, c, e, h1, h2, h3⟩ := h; exact ⟨A, c, e, h1, h2, h3.go k hU⟩
theorem chg_len (l : List Chg) : (l.flatMap chgC).length = l.length * 3 := by
  induction l with
  | nil => rfl
  | cons a l ih => rw [List.flatMap_cons, List.length_append, ih]; simp [chgC]; omega
theorem chg_at {l : List Chg} {k : Nat} (h : k < l.length) : ∀ j, j < 3 → (l.flatMap chgC)[k * 3 + j]? = (chgC l[k])[j]? := by
  induction l generalizing k with
  | nil => simp at h
  | cons a l ih =>
    intro j hj
    cases k with
    | zero => rw [List.flatMap_cons, Nat.zero_mul, Nat.zero_add, List.getElem?_append_left (by simp [chgC]; omega)]; rfl
    | succ k =>
      rw [List.flatMap_cons, List.getElem?_append_right (by simp [chgC]; omega), show (k + 1) * 3 + j - (chgC a).length = k * 3 + j by simp [chgC]; omega, ih (by simpa using h) j hj]; rfl
/-- Changes, one more: what the first k left. -/
theorem changesR_snoc (q : Sto) (l : List Chg) (c : Chg) (h : (changesR q l).1 = 0) : changesR q (l ++ [c]) = changeR (changesR q l).2 c := by
  induction l generalizing q with
  | nil =>
    show (if (changeR q c).1 = 0 then (0, (changeR q c).2) else changeR q c) = changeR q c
    split
    · rename_i e; rw [← e]
    · rfl
  | cons a l ih =>
    rw [List.cons_append]
    unfold changesR at h ⊢
    split
    · rename_i e
      rw [if_pos e] at h
      exact ih _ h
    · rename_i e
      rw [if_neg e] at h
      exact absurd h e
end Go.Proofs.YtagpimahicgkmaaDoor
