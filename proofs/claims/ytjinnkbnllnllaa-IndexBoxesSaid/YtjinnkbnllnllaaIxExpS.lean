/- Walk: index.Expunge. -/
import Derived.Test.YtjinnkbnllnllaaIxWith
import Derived.Test.YtjinnkbnllnllaaTurn
import Derived.Deep.RegionHeld3
namespace Go.Proofs.Ytjinnkbnllnllaa
open Go.RowKit

def ix0 : Ix := ⟨[], [], 0⟩
theorem ixAt_nil (V : List Nat) (w : World) : IxAt V w (.agg #[.slice none 0 0, .slice none 0 0, .int .i64 0]) ix0 := ⟨_, _, rfl, bxsAt_nil _ _, strsAt_nil _ _⟩
/-- The index with other messages in a mailbox. -/
def withIx (x : Ix) (a : Nat) (ml : List Ml) : Ix := ⟨x.boxes.set a (withMails (bxAt x a) ml), x.subs, x.given⟩
def expR (x : Ix) (nm : ByteArray) (uid : Int) : Ix × Int :=
  if rightB x then match placeR x nm uid with
    | (a, k, true) => (withIx x a.toNat ((bxAt x a.toNat).mails.eraseIdx k.toNat), 0)
    | _ => (ix0, 6)
  else (ix0, 1)
def ExpPost (V : List Nat) (x : Ix) (nm : ByteArray) (uid : Int) (w : World) (e : Ending) (w' : World) : Prop :=
  ∃ v, e = .returned (.tuple #[v, .int .i64 (expR x nm uid).2]) ∧ IxAt V w' v (expR x nm uid).1 ∧ Kept w w'

theorem mlsAt_own {V : List Nat} {w : World} {base g n cap : Nat} {l : List Ml} (h : w.ownsRow base 47 4 (.slice (some ⟨g, 0, none⟩) n cap) n (mls l)) (hn : n = l.length) (hV : g ∉ V) : MlsAt V w (.slice (some ⟨g, 0, none⟩) n cap) l := by
  obtain ⟨A, c, e, h1, h2, h3⟩ := own_form (V := []) h (by simp)
  cases e
  subst hn
  refine ⟨_, _, rfl, h1, h2, fun hx => ?_⟩
  obtain ⟨b, o, e, hb, _, hc⟩ := h3 hx
  cases e
  exact ⟨_, _, rfl, hb, hV, hc⟩

set_option maxRecDepth 100000 in
set_option maxHeartbeats 1000000 in
theorem exp_main (V : List Nat) (x : Ix) (v : Value) (nm : ByteArray) (uid : Int) (a k : Nat) (w : World) (hV : Old V w) (h : IxAt V w v x) (hok : IxOk x) (hr : rightB x = true) (hp : placeR x nm uid = ((a : Int), (k : Int), true)) (ha : a < x.boxes.length) (hk : k < (bxAt x a).mails.length) (hl : x.boxes.length ≤ 6) (hm30 : (bxAt x a).mails.length ≤ 30) :
    Calls Try.prog 12 #[v, .string nm, .int .i64 uid] w (ExpPost V x nm uid w) := by
  have HVV := Lib.hid h
  have HOV := Lib.hid hV
  replace h := h.weak (U := []) (fun _ hk => by cases hk)
  clear hV
  have H := Lib.hid h
  have HOK := Lib.hid hok
  have HR := Lib.hid hr
  have HP := Lib.hid hp
  obtain ⟨A, c, A', c', rfl, hc1, hc2, hc3, hc4, hbx, hrow⟩ := h.open_
  obtain ⟨b, o, mv, rfl, hb, _, hbc⟩ := hbx (by omega)
  have HBC := Lib.hid hbc
  clear hbx hrow h hok hr hp hbc
  unfold maxLen at hc2 hc4
  generalize hn : x.boxes.length = n at *
  generalize hm : x.subs.length = m at *
  have HN := Lib.hid hn
  have HM := Lib.hid hm
  clear hn hm
  go_enter Try.func12, Try.ntmps12
  go_wp2_with fail
  refine (right_any x _ _ (H.out.go (((Kept.refl w).alloc _).alloc _) (Ext.refl _ _)) HOK.out).mono ?_
  rintro e w1 ⟨rfl, hk1⟩
  rw [HR.out]
  have OX := Lib.hid (((Own.new w 25 [.slice (some ⟨b, o, none⟩) n c, .slice A' m c', .int .i64 x.given]).alloc (.cells #[.slice none 0 0, .slice none 0 0, .int .i64 0] 25)).kept hk1)
  have OR := Lib.hid ((Own.new1 w (.cells #[.slice (some ⟨b, o, none⟩) n c, .slice A' m c', .int .i64 x.given] 25) 25 [.slice none 0 0, .slice none 0 0, .int .i64 0]).kept hk1)
  have hkw1 := (((Kept.refl w).alloc (.cells #[.slice (some ⟨b, o, none⟩) n c, .slice A' m c', .int .i64 x.given] 25)).alloc (.cells #[.slice none 0 0, .slice none 0 0, .int .i64 0] 25)).trans hk1
  clear hk1
  obtain ⟨q1, q2, q3, _, _, _⟩ := OX.out.three
  go_wp2_with fail
  refine (place_any x _ nm uid _ (H.out.go hkw1 (Ext.refl _ _))).mono ?_
  rintro e w2 ⟨rfl, hk2⟩
  rw [HP.out]
  have OX2 := Lib.hid (OX.out.kept hk2)
  have OR2 := Lib.hid (OR.out.kept hk2)
  have hkw2 := hkw1.trans hk2
  clear hk2 OX OR q1 q2 q3 hkw1
  obtain ⟨q1, q2, q3, _, _, _⟩ := OX2.out.three
  obtain ⟨_, _, _, g4, gm⟩ := HBC.out.go hb hkw2 (Ext.refl _ _) a (by rw [HN.out]; exact ha)
  have HGM := Lib.hid gm
  obtain ⟨MA, mc, hmv⟩ := gm.form
  rw [hmv] at g4 HGM
  have a0 : (0 : Int) ≤ (a : Int) := by omega
  have a1 : (a : Int) < (n : Int) := by omega
  have kw : IntKind.i64.wrap ((k : Int) + 1) = (k : Int) + 1 := IntWalk.i64_in _ (by omega)
  have HAT : Hid (x.boxes[a]'(by rw [HN.out]; exact ha) = bxAt x a) := (bxAt_lt _).symm
  rw [HAT.out] at g4 HGM
  clear gm hmv
  generalize hmn : (bxAt x a).mails.length = mn at *
  have HMN := Lib.hid hmn
  clear hmn
  have hx2 := OX2.out.lt
  have hz2 := OR2.out.lt
  have hb2 : b < w2.heap.size := Nat.lt_of_lt_of_le hb hkw2.size
  have HCL : Hid (Calls Try.prog 35 #[.slice MA mn mc] w2.drew fun e w' => ∃ B bc, e = .returned (.slice B mn bc) ∧ w'.ownsRow w2.drew.heap.size 47 4 (.slice B mn bc) mn (mls (bxAt x a).mails) ∧ Kept w2.drew w') := by
    obtain ⟨MA', mc', e, e1, e2, e3⟩ := HGM.out
    cases e
    have := cloneMl_any (bxAt x a).mails MA mc w2.drew e3 (mls_one _) (by omega)
    rw [HMN.out] at this
    exact this
  have HDE : ∀ (W : World) (g cap base : Nat), W.ownsRow base 47 4 (.slice (some ⟨g, 0, none⟩) mn cap) mn (mls (bxAt x a).mails) → Calls Try.prog 37 #[.slice (some ⟨g, 0, none⟩) mn cap, .int .i64 k, .int .i64 ((k : Int) + 1)] W fun e w' => ∃ n', e = .returned (.slice (some ⟨g, 0, none⟩) n' cap) ∧ n' = ((bxAt x a).mails.eraseIdx k).length ∧ w'.ownsRow base 47 4 (.slice (some ⟨g, 0, none⟩) n' cap) n' (mls ((bxAt x a).mails.eraseIdx k)) ∧ W.grownBy w' (some g) := fun W g cap base hh => by
    have := del_any base g cap k (bxAt x a).mails W (by rw [HMN.out]; exact hh) (by rw [HMN.out]; exact hk) (by rw [HMN.out]; omega)
    rw [HMN.out] at this
    exact this
  have HDE := Lib.hid HDE
  go_upto_region 6 with fail
  refine wp_region_held_drew (S := (fun w' => w'.cell? ⟨w.heap.size, 0, none⟩ = some (.slice (some ⟨b, o, none⟩) n c) ∧ w'.cell? ⟨w.heap.size, 1, none⟩ = some (.slice A' m c') ∧ w'.cell? ⟨w.heap.size, 2, none⟩ = some (.int .i64 x.given) ∧ w'.cell? ⟨b, o + a * 4 + 3, none⟩ = some (.slice MA mn mc))) (by kernel_rfl) ⟨q1, q2, q3, g4⟩ (fun hHeld => ?_)
  refine wpAnyH_take (i := 0) (oi := { dst := some 26, op := Op.load 25 (Operand.tmp 3), type := 25, pos := "changes.go:174", after := #[], guard := none }) (v := ?_) rfl (by kernel_rfl) (by kernel_rfl) (by kernel_rfl) (fun _ _ _ h => h) (Or.inl ⟨by rfl, ?_⟩) (by assumption) ?_
  rotate_left
  · (intro wz hSw; obtain ⟨z1, z2, z3, z4⟩ := hSw; go_simp; (try with_reducible rfl))
  (try simp only [Act.put, List.setIfInBounds_toArray, List.set_cons_zero, List.set_cons_succ])
  refine wpAnyH_take (i := 1) (oi := { dst := some 27, op := Op.move (Operand.tmp 8), type := 3, pos := "changes.go:174", after := #[], guard := none }) (v := ?_) rfl (by kernel_rfl) (by kernel_rfl) (by kernel_rfl) (fun _ _ _ h => h) (Or.inl ⟨by rfl, ?_⟩) (by assumption) ?_
  rotate_left
  · (intro wz hSw; obtain ⟨z1, z2, z3, z4⟩ := hSw; go_simp; (try with_reducible rfl))
  (try simp only [Act.put, List.setIfInBounds_toArray, List.set_cons_zero, List.set_cons_succ])
  refine wpAnyH_take (i := 2) (oi := { dst := some 28, op := Op.fieldAddr 25 (Operand.tmp 3) 0, type := 0, pos := "changes.go:174", after := #[], guard := none }) (v := ?_) rfl (by kernel_rfl) (by kernel_rfl) (by kernel_rfl) (fun _ _ _ h => h) (Or.inl ⟨by rfl, ?_⟩) (by assumption) ?_
  rotate_left
  · (intro wz hSw; obtain ⟨z1, z2, z3, z4⟩ := hSw; go_simp; (try with_reducible rfl))
  (try simp only [Act.put, List.setIfInBounds_toArray, List.set_cons_zero, List.set_cons_succ])
  refine wpAnyH_take (i := 3) (oi := { dst := some 29, op := Op.load 22 (Operand.tmp 28), type := 22, pos := "changes.go:174", after := #[{ on := 2, ground := Ground.data }], guard := none }) (v := ?_) rfl (by kernel_rfl) (by kernel_rfl) (by kernel_rfl) (fun _ _ _ h => h) (Or.inl ⟨by rfl, ?_⟩) (by assumption) ?_
  rotate_left
  · (intro wz hSw; obtain ⟨z1, z2, z3, z4⟩ := hSw; go_simp; (try with_reducible rfl))
  (try simp only [Act.put, List.setIfInBounds_toArray, List.set_cons_zero, List.set_cons_succ])
  refine wpAnyH_take (i := 4) (oi := { dst := some 30, op := Op.move (Operand.tmp 8), type := 3, pos := "changes.go:174", after := #[], guard := none }) (v := ?_) rfl (by kernel_rfl) (by kernel_rfl) (by kernel_rfl) (fun _ _ _ h => h) (Or.inl ⟨by rfl, ?_⟩) (by assumption) ?_
  rotate_left
  · (intro wz hSw; obtain ⟨z1, z2, z3, z4⟩ := hSw; go_simp; (try with_reducible rfl))
  (try simp only [Act.put, List.setIfInBounds_toArray, List.set_cons_zero, List.set_cons_succ])
  refine wpAnyH_take (i := 5) (oi := { dst := some 31, op := Op.indexAddr 22 (Operand.tmp 29) (Operand.tmp 30), type := 0, pos := "changes.go:174", after := #[{ on := 3, ground := Ground.data }, { on := 4, ground := Ground.data }], guard := none }) (v := ?_) rfl (by kernel_rfl) (by kernel_rfl) (by kernel_rfl) (fun _ _ _ h => h) (Or.inl ⟨by rfl, ?_⟩) (by assumption) ?_
  rotate_left
  · (intro wz hSw; obtain ⟨z1, z2, z3, z4⟩ := hSw; go_simp; (try with_reducible rfl))
  (try simp only [Act.put, List.setIfInBounds_toArray, List.set_cons_zero, List.set_cons_succ])
  refine wpAnyH_take (i := 6) (oi := { dst := some 32, op := Op.fieldAddr 40 (Operand.tmp 31) 3, type := 0, pos := "changes.go:174", after := #[{ on := 5, ground := Ground.data }], guard := none }) (v := ?_) rfl (by kernel_rfl) (by kernel_rfl) (by kernel_rfl) (fun _ _ _ h => h) (Or.inl ⟨by rfl, ?_⟩) (by assumption) ?_
  rotate_left
  · (intro wz hSw; obtain ⟨z1, z2, z3, z4⟩ := hSw; go_simp; (try with_reducible rfl))
  (try simp only [Act.put, List.setIfInBounds_toArray, List.set_cons_zero, List.set_cons_succ])
  refine wpAnyH_take (i := 7) (oi := { dst := some 33, op := Op.load 38 (Operand.tmp 32), type := 38, pos := "changes.go:174", after := #[{ on := 6, ground := Ground.data }], guard := none }) (v := ?_) rfl (by kernel_rfl) (by kernel_rfl) (by kernel_rfl) (fun _ _ _ h => h) (Or.inl ⟨by rfl, ?_⟩) (by assumption) ?_
  rotate_left
  · (intro wz hSw; obtain ⟨z1, z2, z3, z4⟩ := hSw; go_simp; (try with_reducible rfl))
  (try simp only [Act.put, List.setIfInBounds_toArray, List.set_cons_zero, List.set_cons_succ])
  refine wpAnyH_take (i := 9) (oi := { dst := some 35, op := Op.move (Operand.tmp 9), type := 3, pos := "changes.go:174", after := #[], guard := none }) (v := ?_) rfl (by kernel_rfl) (by kernel_rfl) (by kernel_rfl) (fun _ _ _ h => h) (Or.inl ⟨by rfl, ?_⟩) (by assumption) ?_
  rotate_left
  · (intro wz hSw; obtain ⟨z1, z2, z3, z4⟩ := hSw; go_simp; (try with_reducible rfl))
  (try simp only [Act.put, List.setIfInBounds_toArray, List.set_cons_zero, List.set_cons_succ])
  refine wpAnyH_take (i := 10) (oi := { dst := some 36, op := Op.move (Operand.tmp 9), type := 3, pos := "changes.go:174", after := #[], guard := none }) (v := ?_) rfl (by kernel_rfl) (by kernel_rfl) (by kernel_rfl) (fun _ _ _ h => h) (Or.inl ⟨by rfl, ?_⟩) (by assumption) ?_
  rotate_left
  · (intro wz hSw; obtain ⟨z1, z2, z3, z4⟩ := hSw; go_simp; (try with_reducible rfl))
  (try simp only [Act.put, List.setIfInBounds_toArray, List.set_cons_zero, List.set_cons_succ])
  refine wpAnyH_take (i := 11) (oi := { dst := some 37, op := Op.binOp BinOp.add 3 (Operand.tmp 36) (Operand.const (Value.int IntKind.i64 1)) 3, type := 3, pos := "changes.go:174", after := #[{ on := 10, ground := Ground.data }], guard := none }) (v := ?_) rfl (by kernel_rfl) (by kernel_rfl) (by kernel_rfl) (fun _ _ _ h => h) (Or.inl ⟨by rfl, ?_⟩) (by assumption) ?_
  rotate_left
  · (intro wz hSw; obtain ⟨z1, z2, z3, z4⟩ := hSw; go_simp; (try with_reducible rfl))
  (try simp only [Act.put, List.setIfInBounds_toArray, List.set_cons_zero, List.set_cons_succ])
  refine wpAnyH_ready (rs := [8]) (by kernel_rfl) (by simp) ?_
  refine AllReadyH.cons (o := { dst := some 34, op := Op.call { callee := Callee.value (Operand.func 35), args := #[Operand.tmp 33], argTypes := #[38] }, type := 38, pos := "changes.go:174", after := #[{ on := 7, ground := Ground.data }], guard := none }) rfl (fun K hK => ?_) AllReadyH.nil
  go_simp
  refine (HCL.out).mono ?_
  rintro e w3 ⟨B, bc, rfl, ho3, hk3⟩
  have hk3' : Kept w2 w3 := (Kept.refl w2).drew.trans hk3
  obtain ⟨g, bc', e, hg1, hg2, hg3, hg4⟩ := ownBlock_of_row ho3 (by omega)
  cases e
  have hg1' : w2.heap.size ≤ g := hg1
  have HO3 := Lib.hid ho3
  clear ho3 hk3
  go_wp2_with fail
  refine hK.out _ _ ?_ (fun hHeld => ?_)
  · exact ⟨(hk3'.cell (p := ⟨w.heap.size, 0, none⟩) hx2).trans q1, (hk3'.cell (p := ⟨w.heap.size, 1, none⟩) hx2).trans q2, (hk3'.cell (p := ⟨w.heap.size, 2, none⟩) hx2).trans q3, (hk3'.cell (p := ⟨b, o + a * 4 + 3, none⟩) hb2).trans g4⟩
  clear hK K
  (try simp only [Act.put, List.setIfInBounds_toArray, List.set_cons_zero, List.set_cons_succ])
  refine wpAnyH_ready (rs := [12]) (by kernel_rfl) (by simp) ?_
  refine AllReadyH.cons (o := { dst := some 38, op := Op.call { callee := Callee.value (Operand.func 37), args := #[Operand.tmp 34, Operand.tmp 35, Operand.tmp 37], argTypes := #[38, 3, 3] }, type := 38, pos := "changes.go:174", after := #[{ on := 8, ground := Ground.data }, { on := 9, ground := Ground.data }, { on := 11, ground := Ground.data }, { on := 8, ground := Ground.chain }], guard := none }) rfl (fun K hK => ?_) AllReadyH.nil
  go_simp
  refine ((HDE.out w3 g bc _ HO3.out)).mono ?_
  rintro e w4 ⟨n', rfl, hn', ho4, hg4'⟩
  have hk4 : Kept w2 w4 := hk3'.grown hg4' (fun bb e => by injection e with e; rw [← e]; exact hg1)
  have HO4 := Lib.hid ho4
  have HN' := Lib.hid hn'
  clear ho4 hg4' hn'
  go_wp2_with fail
  refine hK.out _ _ ?_ (fun hHeld => ?_)
  · exact ⟨(hk4.cell (p := ⟨w.heap.size, 0, none⟩) hx2).trans q1, (hk4.cell (p := ⟨w.heap.size, 1, none⟩) hx2).trans q2, (hk4.cell (p := ⟨w.heap.size, 2, none⟩) hx2).trans q3, (hk4.cell (p := ⟨b, o + a * 4 + 3, none⟩) hb2).trans g4⟩
  clear hK K
  (try simp only [Act.put, List.setIfInBounds_toArray, List.set_cons_zero, List.set_cons_succ])
  refine wpAnyH_ready (rs := [13]) (by kernel_rfl) (by simp) ?_
  refine AllReadyH.cons (o := { dst := some 39, op := Op.call { callee := Callee.value (Operand.func 34), args := #[Operand.tmp 26, Operand.tmp 27, Operand.tmp 38], argTypes := #[25, 3, 38] }, type := 25, pos := "changes.go:174", after := #[{ on := 0, ground := Ground.data }, { on := 1, ground := Ground.data }, { on := 12, ground := Ground.data }, { on := 12, ground := Ground.chain }], guard := none }) rfl (fun K hK => ?_) AllReadyH.nil
  go_simp
  refine (with_any ((w.heap.size + 1) :: V) x.boxes (.slice (some ⟨b, o, none⟩) n c) (.slice A' m c') _ x.given a ((bxAt x a).mails.eraseIdx k) w4 (HVV.out.go (hkw2.trans hk4) (Ext.cons (by omega) (Ext.refl _ _))).parts.2.1 ⟨_, _, _, rfl⟩ (mlsAt_own HO4.out HN'.out (fun hm => by
    rcases List.mem_cons.1 hm with e | hm
    · omega
    · have := HOV.out g hm; have := hkw2.size; omega)) (by rw [HN.out]; exact ha) (by rw [HN.out]; omega)).mono ?_
  rintro e w5 ⟨r, rc, ps, rfl, hps, hml, ho5, hk5⟩
  have hk5' : Kept w2 w5 := hk4.trans hk5
  have HO5 := Lib.hid ho5
  have HPS := Lib.hid hps
  have HML := Lib.hid hml
  have HK5 := Lib.hid hk5
  have OR5 := Lib.hid (OR2.out.kept hk5')
  obtain ⟨p1, p2, p3, p4, p5, p6⟩ := OR5.out.three
  clear ho5 hps hml hk5
  rw [HN.out]
  go_wp2_with fail
  refine hK.out _ _ ?_ (fun hHeld => ?_)
  · exact ⟨(hk5'.cell (p := ⟨w.heap.size, 0, none⟩) hx2).trans q1, (hk5'.cell (p := ⟨w.heap.size, 1, none⟩) hx2).trans q2, (hk5'.cell (p := ⟨w.heap.size, 2, none⟩) hx2).trans q3, (hk5'.cell (p := ⟨b, o + a * 4 + 3, none⟩) hb2).trans g4⟩
  clear hK K
  (try simp only [Act.put, List.setIfInBounds_toArray, List.set_cons_zero, List.set_cons_succ])
  refine wpAnyH_ready (rs := [14]) (by kernel_rfl) (by simp) ?_
  refine AllReadyH.cons (o := { dst := none, op := Op.store 25 (Operand.tmp 6) (Operand.tmp 39), type := 0, pos := "changes.go:174", after := #[{ on := 13, ground := Ground.data }, { on := 13, ground := Ground.chain }, { on := 0, ground := Ground.phase }, { on := 1, ground := Ground.phase }, { on := 2, ground := Ground.phase }, { on := 3, ground := Ground.phase }, { on := 4, ground := Ground.phase }, { on := 5, ground := Ground.phase }, { on := 6, ground := Ground.phase }, { on := 7, ground := Ground.phase }, { on := 8, ground := Ground.phase }, { on := 9, ground := Ground.phase }, { on := 10, ground := Ground.phase }, { on := 11, ground := Ground.phase }, { on := 12, ground := Ground.phase }, { on := 13, ground := Ground.phase }], guard := none }) rfl (fun K hK => ?_) AllReadyH.nil
  go_simp
  have OX5 := Lib.hid (OX2.out.kept hk5')
  have OX6 := (((OX5.out.far (p := ⟨w.heap.size + 1, 0, none⟩) (by simp) (.slice (some ⟨r, 0, none⟩) n rc)).far (p := ⟨w.heap.size + 1, 1, none⟩) (by simp) (.slice A' m c')).far (p := ⟨w.heap.size + 1, 2, none⟩) (by simp) (.int .i64 x.given))
  have g6 : (((w5.setCell ⟨w.heap.size + 1, 0, none⟩ (.slice (some ⟨r, 0, none⟩) n rc)).setCell ⟨w.heap.size + 1, 1, none⟩ (.slice A' m c')).setCell ⟨w.heap.size + 1, 2, none⟩ (.int .i64 x.given)).cell? ⟨b, o + a * 4 + 3, none⟩ = some (.slice MA mn mc) := by
    rw [World.cell?_setCell_far _ _ _ _ (by simp; omega), World.cell?_setCell_far _ _ _ _ (by simp; omega), World.cell?_setCell_far _ _ _ _ (by simp; omega)]
    exact (hk5'.cell (p := ⟨b, o + a * 4 + 3, none⟩) hb2).trans g4
  refine hK.out _ _ ?_ (fun hHeld => ?_)
  · exact ⟨OX6.three.1, OX6.three.2.1, OX6.three.2.2.1, g6⟩
  clear hK K
  (try simp only [Act.put, List.setIfInBounds_toArray, List.set_cons_zero, List.set_cons_succ])
  refine wpAnyH_take (i := 15) (oi := { dst := some 7, op := Op.assign (Operand.const (Value.int IntKind.i64 0)), type := 32, pos := "changes.go:174", after := #[{ on := 14, ground := Ground.chain }, { on := 0, ground := Ground.phase }, { on := 1, ground := Ground.phase }, { on := 2, ground := Ground.phase }, { on := 3, ground := Ground.phase }, { on := 4, ground := Ground.phase }, { on := 5, ground := Ground.phase }, { on := 6, ground := Ground.phase }, { on := 7, ground := Ground.phase }, { on := 8, ground := Ground.phase }, { on := 9, ground := Ground.phase }, { on := 10, ground := Ground.phase }, { on := 11, ground := Ground.phase }, { on := 12, ground := Ground.phase }, { on := 13, ground := Ground.phase }, { on := 14, ground := Ground.phase }], guard := none }) (v := ?_) rfl (by kernel_rfl) (by kernel_rfl) (by kernel_rfl) (fun _ _ _ h => h) (Or.inl ⟨by rfl, ?_⟩) (by assumption) ?_
  rotate_left
  · (intro wz hSw; obtain ⟨z1, z2, z3, z4⟩ := hSw; go_simp; (try with_reducible rfl))
  (try simp only [Act.put, List.setIfInBounds_toArray, List.set_cons_zero, List.set_cons_succ])
  refine wpAnyH_done (by kernel_rfl) ?_ _
  go_wp2
  have r0 := OR5.out.put3' (.slice (some ⟨r, 0, none⟩) n rc) (.slice A' m c') (.int .i64 x.given)
  obtain ⟨s1, s2, s3, _, _, _⟩ := r0.three
  refine bodyPost_ret (v := .tuple #[.agg #[.slice (some ⟨r, 0, none⟩) n rc, .slice A' m c', .int .i64 x.given], .int .i64 0]) (by simp [results, Try.results12, go_sem, s1, s2, s3]) rfl ?_
  have hex : expR x nm uid = (withIx x a ((bxAt x a).mails.eraseIdx k), 0) := by
    unfold expR
    rw [HR.out, HP.out]
    rfl
  have hkw6 : Kept w (((w5.setCell ⟨w.heap.size + 1, 0, none⟩ (.slice (some ⟨r, 0, none⟩) n rc)).setCell ⟨w.heap.size + 1, 1, none⟩ (.slice A' m c')).setCell ⟨w.heap.size + 1, 2, none⟩ (.int .i64 x.given)) := (((hkw2.trans hk5').setCell (p := ⟨w.heap.size + 1, 0, none⟩) (by simp) _).setCell (p := ⟨w.heap.size + 1, 1, none⟩) (by simp) _).setCell (p := ⟨w.heap.size + 1, 2, none⟩) (by simp) _
  refine ⟨_, by rw [hex], ?_, ?_⟩
  · rw [hex]
    refine ⟨_, _, rfl, ⟨ps, HPS.out, ?_, fun p hp => ?_⟩, ?_⟩
    · have hr4 : w4.heap.size ≤ r := (HO5.out.lt r rfl).1
      have hz4 : w.heap.size + 1 < w4.heap.size := Nat.lt_of_lt_of_le hz2 hk4.size
      have nr : (Value.slice (some ⟨r, 0, none⟩) n rc).ownBlock ≠ some (w.heap.size + 1) := fun e => by have := ownBlock_eq e; omega
      have h5 := HO5.out
      rw [HN.out] at h5
      have h6 := ownsRow_setCell_other (ownsRow_setCell_other (ownsRow_setCell_other h5 (a := ⟨w.heap.size + 1, 0, none⟩) nr (.slice (some ⟨r, 0, none⟩) n rc)) (a := ⟨w.heap.size + 1, 1, none⟩) nr (.slice A' m c')) (a := ⟨w.heap.size + 1, 2, none⟩) nr (.int .i64 x.given)
      obtain ⟨A6, c6, e6, h61, h62, h63⟩ := own_form (V := V) h6 (fun k hk => by have := HOV.out k hk; omega)
      cases e6
      have hpl : ps.length = n := by have := congrArg List.length HPS.out; rw [List.length_map, List.length_set, HN.out] at this; exact this
      exact ⟨_, _, by rw [hpl], by rw [hpl]; exact h61, h62, h63⟩
    · exact ((((HML.out p hp).go HK5.out (Ext.refl _ _)).put (p := ⟨w.heap.size + 1, 0, none⟩) (by simp) _).put (p := ⟨w.heap.size + 1, 1, none⟩) (by simp) _).put (p := ⟨w.heap.size + 1, 2, none⟩) (by simp) _ |>.go (Kept.refl _) (fun k hk => .inl (List.mem_cons_of_mem _ hk))
    · exact (HVV.out.go hkw6 (Ext.refl _ _)).parts.2.2
  · exact hkw6

theorem place_found {x : Ix} {nm : ByteArray} {uid : Int} (h : (placeR x nm uid).2.2 = true) : ∃ a k : Nat, placeR x nm uid = ((a : Int), (k : Int), true) ∧ a < x.boxes.length ∧ k < (bxAt x a).mails.length ∧ findX x nm = some a ∧ findM (bxAt x a).mails uid = some k := by
  unfold placeR at h ⊢
  cases hf : findX x nm with
  | none => rw [hf] at h; cases h
  | some a =>
    rw [hf] at h
    simp only at h ⊢
    cases hm : findM (bxAt x a).mails uid with
    | none => rw [hm] at h; cases h
    | some k => exact ⟨a, k, rfl, (findTo_inv hf).1, (findTo_inv hm).1, rfl, hm⟩
theorem right_len {x : Ix} (h : rightB x = true) : 1 ≤ x.boxes.length ∧ x.boxes.length ≤ 6 ∧ x.subs.length ≤ 6 ∧ posB x.given = true ∧ allTo (stepB x) x.boxes.length = true ∧ allTo (subB x) x.subs.length = true ∧ totTo x x.boxes.length ≤ 30 ∧ nmEq (bxAt x 0).name inbox = true := by
  simp only [rightB, Bool.and_eq_true, decide_eq_true_eq] at h
  obtain ⟨⟨⟨⟨⟨⟨⟨h1, h2⟩, h3⟩, h4⟩, h5⟩, h6⟩, h7⟩, h8⟩ := h
  exact ⟨h1, h2, h4, h5, h6, h7, h8, h3⟩

set_option maxRecDepth 100000 in
set_option maxHeartbeats 1000000 in
theorem expV_any (V : List Nat) (x : Ix) (v : Value) (nm : ByteArray) (uid : Int) (w : World) (hV : Old V w) (h : IxAt V w v x) (hok : IxOk x) :
    Calls Try.prog 12 #[v, .string nm, .int .i64 uid] w (ExpPost V x nm uid w) := by
  rcases Bool.eq_false_or_eq_true (rightB x) with hr | hr
  · rcases Bool.eq_false_or_eq_true (placeR x nm uid).2.2 with hp | hp
    · obtain ⟨a, k, hp1, ha, hk, _, _⟩ := place_found hp
      obtain ⟨h1, h2, _, _, h5, _⟩ := right_len hr
      exact exp_main V x v nm uid a k w hV h hok hr hp1 ha hk h2 (box_mails (allTo_iff.1 h5 a ha))
    · have HEX : Hid (expR x nm uid = (ix0, 6)) := by
        show _ = _
        unfold expR
        rcases hq : placeR x nm uid with ⟨p1, p2, p3⟩
        rw [hq] at hp
        have hp' : p3 = false := hp
        subst hp'
        rw [hr]
        rfl
      have H := Lib.hid (h.weak (U := []) (fun _ hk => by cases hk))
      have HOK := Lib.hid hok
      have HR := Lib.hid hr
      have HP := Lib.hid hp
      obtain ⟨A, c, A', c', rfl⟩ := h.form
      clear h hok hr hp
      go_enter Try.func12, Try.ntmps12
      go_wp2_with fail
      refine (right_any x _ _ (H.out.go (((Kept.refl w).alloc _).alloc _) (Ext.refl _ _)) HOK.out).mono ?_
      rintro e w1 ⟨rfl, hk1⟩
      rw [HR.out]
      have OX := Lib.hid (((Own.new w 25 [.slice A x.boxes.length c, .slice A' x.subs.length c', .int .i64 x.given]).alloc (.cells #[.slice none 0 0, .slice none 0 0, .int .i64 0] 25)).kept hk1)
      have OR := Lib.hid ((Own.new1 w (.cells #[.slice A x.boxes.length c, .slice A' x.subs.length c', .int .i64 x.given] 25) 25 [.slice none 0 0, .slice none 0 0, .int .i64 0]).kept hk1)
      have hkw1 := (((Kept.refl w).alloc (.cells #[.slice A x.boxes.length c, .slice A' x.subs.length c', .int .i64 x.given] 25)).alloc (.cells #[.slice none 0 0, .slice none 0 0, .int .i64 0] 25)).trans hk1
      clear hk1
      obtain ⟨q1, q2, q3, _, _, _⟩ := OX.out.three
      go_wp2_with fail
      refine (place_any x _ nm uid _ (H.out.go hkw1 (Ext.refl _ _))).mono ?_
      rintro e w2 ⟨rfl, hk2⟩
      rw [HP.out]
      have OR2 := Lib.hid (OR.out.kept hk2)
      have hkw2 := hkw1.trans hk2
      clear hk2 OX OR q1 q2 q3 hkw1
      generalize (placeR x nm uid).1 = pa at *
      generalize (placeR x nm uid).2.1 = pk at *
      obtain ⟨p1, p2, p3, p4, p5, p6⟩ := OR2.out.three
      go_wp2
      have r0 := OR2.out.put3' (.slice none 0 0) (.slice none 0 0) (.int .i64 0)
      obtain ⟨s1, s2, s3, _, _, _⟩ := r0.three
      refine bodyPost_ret (v := .tuple #[.agg #[.slice none 0 0, .slice none 0 0, .int .i64 0], .int .i64 6]) (by simp [results, Try.results12, go_sem, s1, s2, s3]) rfl ?_
      exact ⟨_, by rw [HEX.out], by rw [HEX.out]; exact ixAt_nil _ _, ((hkw2.setCell (p := ⟨w.heap.size + 1, 0, none⟩) (by simp) _).setCell (p := ⟨w.heap.size + 1, 1, none⟩) (by simp) _).setCell (p := ⟨w.heap.size + 1, 2, none⟩) (by simp) _⟩
  · have HEX : Hid (expR x nm uid = (ix0, 1)) := by show _ = _; unfold expR; rw [hr]; rfl
    have H := Lib.hid (h.weak (U := []) (fun _ hk => by cases hk))
    have HOK := Lib.hid hok
    have HR := Lib.hid hr
    obtain ⟨A, c, A', c', rfl⟩ := h.form
    clear h hok hr
    go_enter Try.func12, Try.ntmps12
    go_wp2_with fail
    refine (right_any x _ _ (H.out.go (((Kept.refl w).alloc _).alloc _) (Ext.refl _ _)) HOK.out).mono ?_
    rintro e w1 ⟨rfl, hk1⟩
    rw [HR.out]
    have OR := Lib.hid ((Own.new1 w (.cells #[.slice A x.boxes.length c, .slice A' x.subs.length c', .int .i64 x.given] 25) 25 [.slice none 0 0, .slice none 0 0, .int .i64 0]).kept hk1)
    have hkw1 := (((Kept.refl w).alloc (.cells #[.slice A x.boxes.length c, .slice A' x.subs.length c', .int .i64 x.given] 25)).alloc (.cells #[.slice none 0 0, .slice none 0 0, .int .i64 0] 25)).trans hk1
    clear hk1
    obtain ⟨p1, p2, p3, p4, p5, p6⟩ := OR.out.three
    go_wp2
    have r0 := OR.out.put3' (.slice none 0 0) (.slice none 0 0) (.int .i64 0)
    obtain ⟨s1, s2, s3, _, _, _⟩ := r0.three
    refine bodyPost_ret (v := .tuple #[.agg #[.slice none 0 0, .slice none 0 0, .int .i64 0], .int .i64 1]) (by simp [results, Try.results12, go_sem, s1, s2, s3]) rfl ?_
    exact ⟨_, by rw [HEX.out], by rw [HEX.out]; exact ixAt_nil _ _, ((hkw1.setCell (p := ⟨w.heap.size + 1, 0, none⟩) (by simp) _).setCell (p := ⟨w.heap.size + 1, 1, none⟩) (by simp) _).setCell (p := ⟨w.heap.size + 1, 2, none⟩) (by simp) _⟩
theorem exp_any (x : Ix) (v : Value) (nm : ByteArray) (uid : Int) (w : World) (h : IxAt [] w v x) (hok : IxOk x) :
    Calls Try.prog 12 #[v, .string nm, .int .i64 uid] w (ExpPost [] x nm uid w) := expV_any [] x v nm uid w (fun _ hk => by cases hk) h hok
end Go.Proofs.Ytjinnkbnllnllaa
