/- Walk: mailsacklaw10.awake. -/
import Derived.Test.YtagpimahicgkmaaDoorWalC
import Derived.Test.YtagpimahicgkmaaDoorDkNew
import Derived.Test.YtagpimahicgkmaaDoorDkRead
import Derived.Test.YtagpimahicgkmaaDoorMa
namespace Go.Proofs.YtagpimahicgkmaaDoor
open Go.RowKit

theorem done_read {d : Dk} {l : List Wr} (h : Ok d l) {i : Nat} (h1 : 61 ≤ i) (h2 : i < d.sec.length) : readR (doneD d l) i = (readTo i (readD d i) l, 0) := by
  have e : readD (doneD d l) i = readTo i (readD d i) l := by rw [← done_at h h1 h2]; rfl
  unfold readR
  rw [done_right h, done_len, Int.toNat_natCast, e]
  simp [h2]
def xz : ByteArray := ⟨(120 :: List.replicate 63 0).toArray⟩
theorem zero_lit : ({ data := #[0, 0, 0, 0, 0, 0, 0, 0, 0, 0, 0, 0, 0, 0, 0, 0, 0, 0, 0, 0, 0, 0, 0, 0, 0, 0, 0, 0, 0, 0, 0, 0, 0, 0, 0, 0, 0, 0, 0, 0, 0, 0, 0, 0, 0, 0, 0, 0, 0, 0, 0, 0, 0, 0, 0, 0, 0, 0, 0, 0, 0, 0, 0, 0] } : ByteArray) = zero64 := by rfl
theorem xz_lit : ({ data := #[120] } ++ zero64.extract 1 64 : ByteArray) = xz := by rfl
def d62 : Dk := ⟨List.replicate 62 zero64, []⟩
def l61 : List Wr := [⟨61, xz⟩]
theorem new62 : newR 62 = (d62, 0) := by rfl
theorem pe62 : planErr d62 l61 = 0 := by decide +kernel
theorem pl62 : (planL d62 l61).length = 9 := by rw [planL_yes pe62, planOps_len]; rfl
theorem cr62 : commitR d62 l61 = (doneD d62 l61, 0) := by unfold commitR; rw [if_pos pe62]
theorem rd62 : readR (doneD d62 l61) 61 = (xz, 0) := done_read (ok_of pe62) (Nat.le_refl _) (by decide)
theorem rp62 : repOps (doneD d62 l61) = [] := rep_zero (by show byteAt (atS (doneD d62 l61).sec 0) 0 ≠ 74; rw [done_zero (ok_of pe62)]; exact zero_no)
theorem dn62 : (doneD d62 l61).sec.length = 62 ∧ (doneD d62 l61).cache = [] := ⟨by rw [done_len]; rfl, rfl⟩

set_option maxRecDepth 100000 in
set_option maxHeartbeats 2000000 in
theorem awake10 (w : World) (ht : Tabs w) : Calls Tryd.prog 13 #[] w fun e w' => e = .returned (.bool true) ∧ Kept w w' := by
  go_enter Tryd.func13, Tryd.ntmps13
  have hz := zero_lit
  have hx := xz_lit
  have hzs : zero64.size = 64 := rfl
  have hxs : xz.size = 64 := rfl
  have K := Kept.refl w
  have HT := Lib.hid ht
  have HP1 := Lib.hid pl62
  have HP2 := Lib.hid pe62
  have HP3 := Lib.hid cr62
  have HP4 := Lib.hid rd62
  have HP5 := Lib.hid rp62
  have HP6 := Lib.hid dn62
  clear ht
  go_wp2_with fail
  refine (new_any [] 62 _ (fun _ h => by cases h)).mono ?_
  rintro e w1 ⟨s1, c1, rfl, hd1, hk⟩
  replace K := K.trans hk
  rw [new62] at hd1 ⊢
  obtain ⟨A0, k0, B0, e0, rfl, rfl⟩ := hd1.form
  dsimp only at hd1 ⊢
  have HDL : Hid (d62.cache.length = 0) := rfl
  rw [show d62.sec.length = 62 from rfl, show d62.cache.length = 0 from rfl] at hd1 ⊢
  have HD := Lib.hid hd1
  clear hd1
  clear hk
  have hw1 := K.size
  generalize d62 = d0 at *
  generalize hl0 : l61 = l0 at *
  have HL0 := Lib.hid hl0
  clear hl0
  go_upto_region 2 with fail
  replace HD := Lib.hid (HD.out.go (Kept.refl _) (Ext.cons (Nat.le_refl _) (Ext.nil _ _)))
  have OD := Lib.hid (Own.new w1 25 [.slice A0 62 k0, .slice B0 0 e0])
  replace HD := Lib.hid (HD.out.go ((Kept.refl w1).alloc (.cells #[.slice A0 62 k0, .slice B0 0 e0] 25)) (Ext.refl _ _))
  replace K := K.alloc (.cells #[.slice A0 62 k0, .slice B0 0 e0] 25)
  generalize (w1.alloc (.cells #[.slice A0 62 k0, .slice B0 0 e0] 25)) = w2 at *
  have CD0 : ∀ W', Kept w2 W' → W'.cell? ⟨w1.heap.size, 0, none⟩ = some (.slice A0 62 k0) := fun W' hk => (OD.out.kept hk).cell? 0
  have CD1 : ∀ W', Kept w2 W' → W'.cell? ⟨w1.heap.size, 1, none⟩ = some (.slice B0 0 e0) := fun W' hk => (OD.out.kept hk).cell? 1
  refine wp_region_Z (S := fun W' => Kept w2 W') (Z := []) (by kernel_rfl) ((Kept.refl _).drew) (fun hHeld => ?_)
  have kr := (Kept.refl w2).drew
  have Kr := K
  have zr := K.size
  have ODr := OD
  have HDr := HD
  replace OD := Lib.hid (ODr.out.kept kr)
  replace HD := Lib.hid (HDr.out.go kr (Ext.refl _ _))
  replace K := Kr.trans kr
  generalize w2.drew = w3 at *
  refine wpAnyZ_take (i := 0) (oi := { dst := some 13, op := Op.load 25 (Operand.tmp 1), type := 25, pos := "law.go:18", after := #[], guard := none }) (v := ?_) rfl (by kernel_rfl) (fun _ _ _ h => h) (Or.inl ⟨by rfl, ?_⟩) (by assumption) ?_
  rotate_left
  · (intro wz hSw; (try dsimp only at hSw); go_simp; (try with_reducible rfl))
  (try simp only [Act.put, List.setIfInBounds_toArray, List.set_cons_zero, List.set_cons_succ])
  refine wpAnyZ_take (i := 1) (oi := { dst := some 14, op := Op.slice 9 (Operand.const (Value.string { data := #[0, 0, 0, 0, 0, 0, 0, 0, 0, 0, 0, 0, 0, 0, 0, 0, 0, 0, 0, 0, 0, 0, 0, 0, 0, 0, 0, 0, 0, 0, 0, 0, 0, 0, 0, 0, 0, 0, 0, 0, 0, 0, 0, 0, 0, 0, 0, 0, 0, 0, 0, 0, 0, 0, 0, 0, 0, 0, 0, 0, 0, 0, 0, 0] })) (some (Operand.const (Value.int IntKind.i64 1))) none none, type := 9, pos := "law.go:18", after := #[], guard := none }) (v := ?_) rfl (by kernel_rfl) (fun _ _ _ h => h) (Or.inl ⟨by rfl, ?_⟩) (by assumption) ?_
  rotate_left
  · (intro wz hSw; (try dsimp only at hSw); go_simp; (try with_reducible rfl))
  (try simp only [Act.put, List.setIfInBounds_toArray, List.set_cons_zero, List.set_cons_succ])
  refine wpAnyZ_take (i := 2) (oi := { dst := some 15, op := Op.binOp BinOp.add 9 (Operand.const (Value.string { data := #[120] })) (Operand.tmp 14) 9, type := 9, pos := "law.go:18", after := #[{ on := 1, ground := Ground.data }], guard := none }) (v := ?_) rfl (by kernel_rfl) (fun _ _ _ h => h) (Or.inl ⟨by rfl, ?_⟩) (by assumption) ?_
  rotate_left
  · (intro wz hSw; (try dsimp only at hSw); go_simp; (try with_reducible rfl))
  (try simp only [Act.put, List.setIfInBounds_toArray, List.set_cons_zero, List.set_cons_succ])
  refine wpAnyZ_take (i := 3) (oi := { dst := some 16, op := Op.build 38 #[(0, Operand.const (Value.int IntKind.i64 61)), (1, Operand.tmp 15)], type := 38, pos := "law.go:18", after := #[{ on := 2, ground := Ground.data }], guard := none }) (v := ?_) rfl (by kernel_rfl) (fun _ _ _ h => h) (Or.inl ⟨by rfl, ?_⟩) (by assumption) ?_
  rotate_left
  · (intro wz hSw; (try dsimp only at hSw); go_simp; (try with_reducible rfl))
  (try simp only [Act.put, List.setIfInBounds_toArray, List.set_cons_zero, List.set_cons_succ])
  refine wpAnyZ_ready (rs := [4]) (by kernel_rfl) (by simp) ?_
  refine AllReadyZ.cons (o := { dst := some 17, op := Op.buildSlice 23 1 #[(0, Operand.tmp 16)], type := 23, pos := "law.go:18", after := #[{ on := 3, ground := Ground.data }], guard := none }) rfl (fun KK hKK => ?_) AllReadyZ.nil
  go_simp
  replace kr := kr.alloc (.cells #[.int .i64 61, .string xz] 38)
  clear hHeld
  have OX := Lib.hid (Own.new w3 38 [.int .i64 61, .string xz])
  replace OD := Lib.hid (ODr.out.kept kr)
  replace HD := Lib.hid (HDr.out.go kr (Ext.refl _ _))
  replace K := Kr.trans kr
  generalize (w3.alloc (.cells #[.int .i64 61, .string xz] 38)) = w4 at *
  generalize w3.heap.size = bX at *
  refine hKK.out _ _ ?_ (fun hHeld => ?_)
  · exact kr
  clear hKK KK
  (try simp only [Act.put, List.setIfInBounds_toArray, List.set_cons_zero, List.set_cons_succ])
  refine wpAnyZ_ready (rs := [5]) (by kernel_rfl) (by simp) ?_
  refine AllReadyZ.cons (o := { dst := some 18, op := Op.call { callee := Callee.value (Operand.func 14), args := #[Operand.tmp 13, Operand.tmp 17], argTypes := #[25, 23] }, type := 35, pos := "law.go:18", after := #[{ on := 0, ground := Ground.data }, { on := 4, ground := Ground.data }], guard := none }) rfl (fun KK hKK => ?_) AllReadyZ.nil
  go_simp
  refine (plan_any [] d0 l0 _ _ w4 (HT.out.kept K) (HD.out.weak (fun _ h => by cases h)) (by rw [← HL0.out]; exact ⟨_, _, rfl, Nat.le_refl _, by decide, OX.out.row (by simp)⟩ : WrsAt [] w4 (.slice (some ⟨bX, 0, none⟩) 1 1) l0) (fun _ h => by cases h)).mono ?_
  rintro e w5 ⟨r1, rfl, hr1, hk⟩
  clear hHeld
  replace kr := kr.trans hk
  replace OD := Lib.hid (ODr.out.kept kr)
  replace HD := Lib.hid (HDr.out.go kr (Ext.refl _ _))
  replace K := Kr.trans kr
  rw [HP2.out]
  obtain ⟨QA, qc, rfl, _, _, _⟩ := hr1
  rw [HP1.out]
  clear hk
  go_simp
  refine hKK.out _ _ ?_ (fun hHeld => ?_)
  · exact kr
  clear hKK KK
  (try simp only [Act.put, List.setIfInBounds_toArray, List.set_cons_zero, List.set_cons_succ])
  refine wpAnyZ_take (i := 6) (oi := { dst := some 12, op := Op.move (Operand.tmp 18), type := 35, pos := "law.go:18", after := #[{ on := 5, ground := Ground.data }], guard := none }) (v := ?_) rfl (by kernel_rfl) (fun _ _ _ h => h) (Or.inl ⟨by rfl, ?_⟩) (by assumption) ?_
  rotate_left
  · (intro wz hSw; (try dsimp only at hSw); go_simp; (try with_reducible rfl))
  (try simp only [Act.put, List.setIfInBounds_toArray, List.set_cons_zero, List.set_cons_succ])
  refine wpAnyZ_take (i := 7) (oi := { dst := some 19, op := Op.extract (Operand.tmp 12) 0, type := 33, pos := "law.go:18", after := #[{ on := 6, ground := Ground.data }], guard := none }) (v := ?_) rfl (by kernel_rfl) (fun _ _ _ h => h) (Or.inl ⟨by rfl, ?_⟩) (by assumption) ?_
  rotate_left
  · (intro wz hSw; (try dsimp only at hSw); go_simp; (try with_reducible rfl))
  (try simp only [Act.put, List.setIfInBounds_toArray, List.set_cons_zero, List.set_cons_succ])
  refine wpAnyZ_take (i := 8) (oi := { dst := some 20, op := Op.extract (Operand.tmp 12) 1, type := 34, pos := "law.go:18", after := #[{ on := 6, ground := Ground.data }, { on := 9, ground := Ground.gcOnly Departure.lateStores }], guard := none }) (v := ?_) rfl (by kernel_rfl) (fun _ _ _ h => h) (Or.inl ⟨by rfl, ?_⟩) (by assumption) ?_
  rotate_left
  · (intro wz hSw; (try dsimp only at hSw); go_simp; (try with_reducible rfl))
  (try simp only [Act.put, List.setIfInBounds_toArray, List.set_cons_zero, List.set_cons_succ])
  refine wpAnyZ_take (i := 9) (oi := { dst := some 3, op := Op.assign (Operand.tmp 19), type := 33, pos := "law.go:18", after := #[{ on := 7, ground := Ground.data }, { on := 5, ground := Ground.chain }, { on := 0, ground := Ground.phase }, { on := 1, ground := Ground.phase }, { on := 2, ground := Ground.phase }, { on := 3, ground := Ground.phase }, { on := 4, ground := Ground.phase }, { on := 5, ground := Ground.phase }, { on := 6, ground := Ground.phase }, { on := 7, ground := Ground.phase }, { on := 8, ground := Ground.textOnly Departure.lateStores }], guard := none }) (v := ?_) rfl (by kernel_rfl) (fun _ _ _ h => h) (Or.inl ⟨by rfl, ?_⟩) (by assumption) ?_
  rotate_left
  · (intro wz hSw; (try dsimp only at hSw); go_simp; (try with_reducible rfl))
  (try simp only [Act.put, List.setIfInBounds_toArray, List.set_cons_zero, List.set_cons_succ])
  refine wpAnyZ_take (i := 10) (oi := { dst := some 4, op := Op.assign (Operand.tmp 20), type := 34, pos := "law.go:18", after := #[{ on := 8, ground := Ground.data }, { on := 9, ground := Ground.chain }, { on := 0, ground := Ground.phase }, { on := 1, ground := Ground.phase }, { on := 2, ground := Ground.phase }, { on := 3, ground := Ground.phase }, { on := 4, ground := Ground.phase }, { on := 5, ground := Ground.phase }, { on := 6, ground := Ground.phase }, { on := 7, ground := Ground.phase }, { on := 8, ground := Ground.phase }, { on := 9, ground := Ground.phase }], guard := none }) (v := ?_) rfl (by kernel_rfl) (fun _ _ _ h => h) (Or.inl ⟨by rfl, ?_⟩) (by assumption) ?_
  rotate_left
  · (intro wz hSw; (try dsimp only at hSw); go_simp; (try with_reducible rfl))
  (try simp only [Act.put, List.setIfInBounds_toArray, List.set_cons_zero, List.set_cons_succ])
  refine wpAnyZ_done (by kernel_rfl) ?_ _
  clear CD0 CD1 ODr HDr Kr zr hHeld kr
  go_wp2_with fail
  clear OX
  have CD0 : ∀ W', Kept w5 W' → W'.cell? ⟨w1.heap.size, 0, none⟩ = some (.slice A0 62 k0) := fun W' hk => (OD.out.kept hk).cell? 0
  have CD1 : ∀ W', Kept w5 W' → W'.cell? ⟨w1.heap.size, 1, none⟩ = some (.slice B0 0 e0) := fun W' hk => (OD.out.kept hk).cell? 1
  refine wp_region_Z (S := fun W' => Kept w5 W') (Z := [7, 8, 9, 10]) (by kernel_rfl) ((Kept.refl _).drew) (fun hHeld => ?_)
  have kr := (Kept.refl w5).drew
  have Kr := K
  have zr := K.size
  have ODr := OD
  have HDr := HD
  replace OD := Lib.hid (ODr.out.kept kr)
  replace HD := Lib.hid (HDr.out.go kr (Ext.refl _ _))
  replace K := Kr.trans kr
  generalize w5.drew = w6 at *
  refine wpAnyZ_take (i := 0) (oi := { dst := some 22, op := Op.load 25 (Operand.tmp 1), type := 25, pos := "law.go:19", after := #[], guard := none }) (v := ?_) rfl (by kernel_rfl) (fun _ _ _ h => h) (Or.inl ⟨by rfl, ?_⟩) (by assumption) ?_
  rotate_left
  · (intro wz hSw; (try dsimp only at hSw); go_simp; (try with_reducible rfl))
  (try simp only [Act.put, List.setIfInBounds_toArray, List.set_cons_zero, List.set_cons_succ])
  refine wpAnyZ_take (i := 1) (oi := { dst := some 23, op := Op.slice 9 (Operand.const (Value.string { data := #[0, 0, 0, 0, 0, 0, 0, 0, 0, 0, 0, 0, 0, 0, 0, 0, 0, 0, 0, 0, 0, 0, 0, 0, 0, 0, 0, 0, 0, 0, 0, 0, 0, 0, 0, 0, 0, 0, 0, 0, 0, 0, 0, 0, 0, 0, 0, 0, 0, 0, 0, 0, 0, 0, 0, 0, 0, 0, 0, 0, 0, 0, 0, 0] })) (some (Operand.const (Value.int IntKind.i64 1))) none none, type := 9, pos := "law.go:19", after := #[], guard := none }) (v := ?_) rfl (by kernel_rfl) (fun _ _ _ h => h) (Or.inl ⟨by rfl, ?_⟩) (by assumption) ?_
  rotate_left
  · (intro wz hSw; (try dsimp only at hSw); go_simp; (try with_reducible rfl))
  (try simp only [Act.put, List.setIfInBounds_toArray, List.set_cons_zero, List.set_cons_succ])
  refine wpAnyZ_take (i := 2) (oi := { dst := some 24, op := Op.binOp BinOp.add 9 (Operand.const (Value.string { data := #[120] })) (Operand.tmp 23) 9, type := 9, pos := "law.go:19", after := #[{ on := 1, ground := Ground.data }], guard := none }) (v := ?_) rfl (by kernel_rfl) (fun _ _ _ h => h) (Or.inl ⟨by rfl, ?_⟩) (by assumption) ?_
  rotate_left
  · (intro wz hSw; (try dsimp only at hSw); go_simp; (try with_reducible rfl))
  (try simp only [Act.put, List.setIfInBounds_toArray, List.set_cons_zero, List.set_cons_succ])
  refine wpAnyZ_take (i := 3) (oi := { dst := some 25, op := Op.build 38 #[(0, Operand.const (Value.int IntKind.i64 61)), (1, Operand.tmp 24)], type := 38, pos := "law.go:19", after := #[{ on := 2, ground := Ground.data }], guard := none }) (v := ?_) rfl (by kernel_rfl) (fun _ _ _ h => h) (Or.inl ⟨by rfl, ?_⟩) (by assumption) ?_
  rotate_left
  · (intro wz hSw; (try dsimp only at hSw); go_simp; (try with_reducible rfl))
  (try simp only [Act.put, List.setIfInBounds_toArray, List.set_cons_zero, List.set_cons_succ])
  refine wpAnyZ_ready (rs := [4]) (by kernel_rfl) (by simp) ?_
  refine AllReadyZ.cons (o := { dst := some 26, op := Op.buildSlice 23 1 #[(0, Operand.tmp 25)], type := 23, pos := "law.go:19", after := #[{ on := 3, ground := Ground.data }], guard := none }) rfl (fun KK hKK => ?_) AllReadyZ.nil
  go_simp
  replace kr := kr.alloc (.cells #[.int .i64 61, .string xz] 38)
  clear hHeld
  have OX := Lib.hid (Own.new w6 38 [.int .i64 61, .string xz])
  replace OD := Lib.hid (ODr.out.kept kr)
  replace HD := Lib.hid (HDr.out.go kr (Ext.refl _ _))
  replace K := Kr.trans kr
  generalize (w6.alloc (.cells #[.int .i64 61, .string xz] 38)) = w7 at *
  generalize w6.heap.size = bX at *
  refine hKK.out _ _ ?_ (fun hHeld => ?_)
  · exact kr
  clear hKK KK
  (try simp only [Act.put, List.setIfInBounds_toArray, List.set_cons_zero, List.set_cons_succ])
  refine wpAnyZ_ready (rs := [5]) (by kernel_rfl) (by simp) ?_
  refine AllReadyZ.cons (o := { dst := some 27, op := Op.call { callee := Callee.value (Operand.func 15), args := #[Operand.tmp 22, Operand.tmp 26], argTypes := #[25, 23] }, type := 42, pos := "law.go:19", after := #[{ on := 0, ground := Ground.data }, { on := 4, ground := Ground.data }], guard := none }) rfl (fun KK hKK => ?_) AllReadyZ.nil
  go_simp
  refine (commit_any [w1.heap.size] d0 l0 _ _ w7 (HT.out.kept K) HD.out (by rw [← HL0.out]; exact ⟨_, _, rfl, Nat.le_refl _, by decide, OX.out.row (by simp)⟩ : WrsAt [] w7 (.slice (some ⟨bX, 0, none⟩) 1 1) l0) (Old.cons OD.out.lt (fun _ h => by cases h)) (by rw [HDL.out]; exact Nat.zero_le _)).mono ?_
  rintro e w8 ⟨s2, c2, rfl, hd2, hk⟩
  clear hHeld
  replace kr := kr.trans hk
  replace OD := Lib.hid (ODr.out.kept kr)
  replace HD := Lib.hid (HDr.out.go kr (Ext.refl _ _))
  replace K := Kr.trans kr
  rw [HP3.out] at hd2 ⊢
  obtain ⟨A2, k2, B2, e2, rfl, rfl⟩ := hd2.form
  dsimp only at hd2 ⊢
  rw [HP6.out.1, HP6.out.2] at hd2 ⊢
  dsimp only [List.length_nil] at hd2 ⊢
  have HD2 := Lib.hid hd2
  clear hd2
  clear hk
  go_simp
  refine hKK.out _ _ ?_ (fun hHeld => ?_)
  · exact kr
  clear hKK KK
  (try simp only [Act.put, List.setIfInBounds_toArray, List.set_cons_zero, List.set_cons_succ])
  refine wpAnyZ_take (i := 6) (oi := { dst := some 21, op := Op.move (Operand.tmp 27), type := 42, pos := "law.go:19", after := #[{ on := 5, ground := Ground.data }], guard := none }) (v := ?_) rfl (by kernel_rfl) (fun _ _ _ h => h) (Or.inl ⟨by rfl, ?_⟩) (by assumption) ?_
  rotate_left
  · (intro wz hSw; (try dsimp only at hSw); go_simp; (try with_reducible rfl))
  (try simp only [Act.put, List.setIfInBounds_toArray, List.set_cons_zero, List.set_cons_succ])
  refine wpAnyZ_ready (rs := [7, 8]) (by kernel_rfl) (by simp) ?_
  refine AllReadyZ.late (o := { dst := some 28, op := Op.extract (Operand.tmp 21) 0, type := 25, pos := "law.go:19", after := #[{ on := 6, ground := Ground.data }], guard := none }) rfl (by simp) (fun KK hKK => ?_) ?_
  · skip
    go_simp
    refine hKK.out _ _ ?_
    clear hKK KK
    (try simp only [Act.put, List.setIfInBounds_toArray, List.set_cons_zero, List.set_cons_succ])
    refine wpAnyZ_ready (rs := [8, 9]) (by kernel_rfl) (by simp) ?_
    refine AllReadyZ.late (o := { dst := some 29, op := Op.extract (Operand.tmp 21) 1, type := 34, pos := "law.go:19", after := #[{ on := 6, ground := Ground.data }, { on := 9, ground := Ground.gcOnly Departure.lateStores }], guard := none }) rfl (by simp) (fun KK hKK => ?_) ?_
    · skip
      go_simp
      refine hKK.out _ _ ?_
      clear hKK KK
      (try simp only [Act.put, List.setIfInBounds_toArray, List.set_cons_zero, List.set_cons_succ])
      refine wpAnyZ_ready (rs := [9]) (by kernel_rfl) (by simp) ?_
      refine AllReadyZ.late (o := { dst := none, op := Op.store 25 (Operand.tmp 1) (Operand.tmp 28), type := 0, pos := "law.go:19", after := #[{ on := 7, ground := Ground.data }, { on := 5, ground := Ground.chain }, { on := 0, ground := Ground.phase }, { on := 1, ground := Ground.phase }, { on := 2, ground := Ground.phase }, { on := 3, ground := Ground.phase }, { on := 4, ground := Ground.phase }, { on := 5, ground := Ground.phase }, { on := 6, ground := Ground.phase }, { on := 7, ground := Ground.phase }, { on := 8, ground := Ground.textOnly Departure.lateStores }], guard := none }) rfl (by simp) (fun KK hKK => ?_) AllReadyZ.nil
      obtain ⟨cD0, cD1, fD0, fD1⟩ := OD.out.two
      go_simp
      clear cD0 cD1 fD0 fD1
      replace OD : Hid (Own ((w8.setCell ⟨w1.heap.size, 0, none⟩ (.slice A2 62 k2)).setCell ⟨w1.heap.size, 1, none⟩ (.slice B2 0 e2)) w1.heap.size 25 [.slice A2 62 k2, .slice B2 0 e2]) := Lib.hid ((OD.out.set_ 0 (.slice A2 62 k2)).set_ 1 (.slice B2 0 e2))
      replace HD2 := Lib.hid ((HD2.out.put (p := ⟨w1.heap.size, 0, none⟩) (by simp) (.slice A2 62 k2)).put (p := ⟨w1.heap.size, 1, none⟩) (by simp) (.slice B2 0 e2))
      replace K := ((K.setCell (p := ⟨w1.heap.size, 0, none⟩) (by first | exact Nat.le_refl _ | (simp only []; omega) | simp) (.slice A2 62 k2)).setCell (p := ⟨w1.heap.size, 1, none⟩) (by first | exact Nat.le_refl _ | (simp only []; omega) | simp) (.slice B2 0 e2))
      generalize ((w8.setCell ⟨w1.heap.size, 0, none⟩ (.slice A2 62 k2)).setCell ⟨w1.heap.size, 1, none⟩ (.slice B2 0 e2)) = w9 at *
      refine hKK.out _ _ ?_
      clear hKK KK
      (try simp only [Act.put, List.setIfInBounds_toArray, List.set_cons_zero, List.set_cons_succ])
      refine wpAnyZ_ready (rs := [10]) (by kernel_rfl) (by simp) ?_
      refine AllReadyZ.late (o := { dst := some 5, op := Op.assign (Operand.tmp 29), type := 34, pos := "law.go:19", after := #[{ on := 8, ground := Ground.data }, { on := 9, ground := Ground.chain }, { on := 0, ground := Ground.phase }, { on := 1, ground := Ground.phase }, { on := 2, ground := Ground.phase }, { on := 3, ground := Ground.phase }, { on := 4, ground := Ground.phase }, { on := 5, ground := Ground.phase }, { on := 6, ground := Ground.phase }, { on := 7, ground := Ground.phase }, { on := 8, ground := Ground.phase }, { on := 9, ground := Ground.phase }], guard := none }) rfl (by simp) (fun KK hKK => ?_) AllReadyZ.nil
      go_simp
      refine hKK.out _ _ ?_
      clear hKK KK
      (try simp only [Act.put, List.setIfInBounds_toArray, List.set_cons_zero, List.set_cons_succ])
      refine wpAnyZ_done (by kernel_rfl) ?_ _
      clear CD0 CD1 ODr HDr Kr zr hHeld kr
      clear HD
      obtain ⟨cD0, cD1, fD0, fD1⟩ := OD.out.two
      go_wp2_with fail
      refine (read_any [w1.heap.size] _ 61 _ _ HD2.out (by omega)).mono ?_
      rintro e w10 ⟨rfl, hk⟩
      clear cD0 cD1 fD0 fD1
      replace OD := Lib.hid (OD.out.kept hk)
      replace HD2 := Lib.hid (HD2.out.go hk (Ext.refl _ _))
      replace K := K.trans hk
      rw [HP4.out]
      clear hk
      obtain ⟨cD0, cD1, fD0, fD1⟩ := OD.out.two
      go_wp2_with fail
      refine (repair_any [] _ _ _ (HT.out.kept K) (HD2.out.weak (fun _ h => by cases h)) (fun _ h => by cases h)).mono ?_
      rintro e w11 ⟨r9, rfl, hr9, hk⟩
      clear cD0 cD1 fD0 fD1
      replace OD := Lib.hid (OD.out.kept hk)
      replace HD2 := Lib.hid (HD2.out.go hk (Ext.refl _ _))
      replace K := K.trans hk
      rw [HP5.out] at hr9
      obtain ⟨Q9, q9, rfl, _, _, _⟩ := hr9
      clear hk
      go_wp2
      go_ret
      exact ⟨rfl, K⟩
    refine AllReadyZ.late (o := { dst := none, op := Op.store 25 (Operand.tmp 1) (Operand.tmp 28), type := 0, pos := "law.go:19", after := #[{ on := 7, ground := Ground.data }, { on := 5, ground := Ground.chain }, { on := 0, ground := Ground.phase }, { on := 1, ground := Ground.phase }, { on := 2, ground := Ground.phase }, { on := 3, ground := Ground.phase }, { on := 4, ground := Ground.phase }, { on := 5, ground := Ground.phase }, { on := 6, ground := Ground.phase }, { on := 7, ground := Ground.phase }, { on := 8, ground := Ground.textOnly Departure.lateStores }], guard := none }) rfl (by simp) (fun KK hKK => ?_) AllReadyZ.nil
    obtain ⟨cD0, cD1, fD0, fD1⟩ := OD.out.two
    go_simp
    clear cD0 cD1 fD0 fD1
    replace OD : Hid (Own ((w8.setCell ⟨w1.heap.size, 0, none⟩ (.slice A2 62 k2)).setCell ⟨w1.heap.size, 1, none⟩ (.slice B2 0 e2)) w1.heap.size 25 [.slice A2 62 k2, .slice B2 0 e2]) := Lib.hid ((OD.out.set_ 0 (.slice A2 62 k2)).set_ 1 (.slice B2 0 e2))
    replace HD2 := Lib.hid ((HD2.out.put (p := ⟨w1.heap.size, 0, none⟩) (by simp) (.slice A2 62 k2)).put (p := ⟨w1.heap.size, 1, none⟩) (by simp) (.slice B2 0 e2))
    replace K := ((K.setCell (p := ⟨w1.heap.size, 0, none⟩) (by first | exact Nat.le_refl _ | (simp only []; omega) | simp) (.slice A2 62 k2)).setCell (p := ⟨w1.heap.size, 1, none⟩) (by first | exact Nat.le_refl _ | (simp only []; omega) | simp) (.slice B2 0 e2))
    generalize ((w8.setCell ⟨w1.heap.size, 0, none⟩ (.slice A2 62 k2)).setCell ⟨w1.heap.size, 1, none⟩ (.slice B2 0 e2)) = w9 at *
    refine hKK.out _ _ ?_
    clear hKK KK
    (try simp only [Act.put, List.setIfInBounds_toArray, List.set_cons_zero, List.set_cons_succ])
    refine wpAnyZ_ready (rs := [8]) (by kernel_rfl) (by simp) ?_
    refine AllReadyZ.late (o := { dst := some 29, op := Op.extract (Operand.tmp 21) 1, type := 34, pos := "law.go:19", after := #[{ on := 6, ground := Ground.data }, { on := 9, ground := Ground.gcOnly Departure.lateStores }], guard := none }) rfl (by simp) (fun KK hKK => ?_) AllReadyZ.nil
    go_simp
    refine hKK.out _ _ ?_
    clear hKK KK
    (try simp only [Act.put, List.setIfInBounds_toArray, List.set_cons_zero, List.set_cons_succ])
    refine wpAnyZ_ready (rs := [10]) (by kernel_rfl) (by simp) ?_
    refine AllReadyZ.late (o := { dst := some 5, op := Op.assign (Operand.tmp 29), type := 34, pos := "law.go:19", after := #[{ on := 8, ground := Ground.data }, { on := 9, ground := Ground.chain }, { on := 0, ground := Ground.phase }, { on := 1, ground := Ground.phase }, { on := 2, ground := Ground.phase }, { on := 3, ground := Ground.phase }, { on := 4, ground := Ground.phase }, { on := 5, ground := Ground.phase }, { on := 6, ground := Ground.phase }, { on := 7, ground := Ground.phase }, { on := 8, ground := Ground.phase }, { on := 9, ground := Ground.phase }], guard := none }) rfl (by simp) (fun KK hKK => ?_) AllReadyZ.nil
    go_simp
    refine hKK.out _ _ ?_
    clear hKK KK
    (try simp only [Act.put, List.setIfInBounds_toArray, List.set_cons_zero, List.set_cons_succ])
    refine wpAnyZ_done (by kernel_rfl) ?_ _
    clear CD0 CD1 ODr HDr Kr zr hHeld kr
    clear HD
    obtain ⟨cD0, cD1, fD0, fD1⟩ := OD.out.two
    go_wp2_with fail
    refine (read_any [w1.heap.size] _ 61 _ _ HD2.out (by omega)).mono ?_
    rintro e w10 ⟨rfl, hk⟩
    clear cD0 cD1 fD0 fD1
    replace OD := Lib.hid (OD.out.kept hk)
    replace HD2 := Lib.hid (HD2.out.go hk (Ext.refl _ _))
    replace K := K.trans hk
    rw [HP4.out]
    clear hk
    obtain ⟨cD0, cD1, fD0, fD1⟩ := OD.out.two
    go_wp2_with fail
    refine (repair_any [] _ _ _ (HT.out.kept K) (HD2.out.weak (fun _ h => by cases h)) (fun _ h => by cases h)).mono ?_
    rintro e w11 ⟨r9, rfl, hr9, hk⟩
    clear cD0 cD1 fD0 fD1
    replace OD := Lib.hid (OD.out.kept hk)
    replace HD2 := Lib.hid (HD2.out.go hk (Ext.refl _ _))
    replace K := K.trans hk
    rw [HP5.out] at hr9
    obtain ⟨Q9, q9, rfl, _, _, _⟩ := hr9
    clear hk
    go_wp2
    go_ret
    exact ⟨rfl, K⟩
  refine AllReadyZ.late (o := { dst := some 29, op := Op.extract (Operand.tmp 21) 1, type := 34, pos := "law.go:19", after := #[{ on := 6, ground := Ground.data }, { on := 9, ground := Ground.gcOnly Departure.lateStores }], guard := none }) rfl (by simp) (fun KK hKK => ?_) AllReadyZ.nil
  go_simp
  refine hKK.out _ _ ?_
  clear hKK KK
  (try simp only [Act.put, List.setIfInBounds_toArray, List.set_cons_zero, List.set_cons_succ])
  refine wpAnyZ_ready (rs := [7]) (by kernel_rfl) (by simp) ?_
  refine AllReadyZ.late (o := { dst := some 28, op := Op.extract (Operand.tmp 21) 0, type := 25, pos := "law.go:19", after := #[{ on := 6, ground := Ground.data }], guard := none }) rfl (by simp) (fun KK hKK => ?_) AllReadyZ.nil
  go_simp
  refine hKK.out _ _ ?_
  clear hKK KK
  (try simp only [Act.put, List.setIfInBounds_toArray, List.set_cons_zero, List.set_cons_succ])
  refine wpAnyZ_ready (rs := [9]) (by kernel_rfl) (by simp) ?_
  refine AllReadyZ.late (o := { dst := none, op := Op.store 25 (Operand.tmp 1) (Operand.tmp 28), type := 0, pos := "law.go:19", after := #[{ on := 7, ground := Ground.data }, { on := 5, ground := Ground.chain }, { on := 0, ground := Ground.phase }, { on := 1, ground := Ground.phase }, { on := 2, ground := Ground.phase }, { on := 3, ground := Ground.phase }, { on := 4, ground := Ground.phase }, { on := 5, ground := Ground.phase }, { on := 6, ground := Ground.phase }, { on := 7, ground := Ground.phase }, { on := 8, ground := Ground.textOnly Departure.lateStores }], guard := none }) rfl (by simp) (fun KK hKK => ?_) AllReadyZ.nil
  obtain ⟨cD0, cD1, fD0, fD1⟩ := OD.out.two
  go_simp
  clear cD0 cD1 fD0 fD1
  replace OD : Hid (Own ((w8.setCell ⟨w1.heap.size, 0, none⟩ (.slice A2 62 k2)).setCell ⟨w1.heap.size, 1, none⟩ (.slice B2 0 e2)) w1.heap.size 25 [.slice A2 62 k2, .slice B2 0 e2]) := Lib.hid ((OD.out.set_ 0 (.slice A2 62 k2)).set_ 1 (.slice B2 0 e2))
  replace HD2 := Lib.hid ((HD2.out.put (p := ⟨w1.heap.size, 0, none⟩) (by simp) (.slice A2 62 k2)).put (p := ⟨w1.heap.size, 1, none⟩) (by simp) (.slice B2 0 e2))
  replace K := ((K.setCell (p := ⟨w1.heap.size, 0, none⟩) (by first | exact Nat.le_refl _ | (simp only []; omega) | simp) (.slice A2 62 k2)).setCell (p := ⟨w1.heap.size, 1, none⟩) (by first | exact Nat.le_refl _ | (simp only []; omega) | simp) (.slice B2 0 e2))
  generalize ((w8.setCell ⟨w1.heap.size, 0, none⟩ (.slice A2 62 k2)).setCell ⟨w1.heap.size, 1, none⟩ (.slice B2 0 e2)) = w9 at *
  refine hKK.out _ _ ?_
  clear hKK KK
  (try simp only [Act.put, List.setIfInBounds_toArray, List.set_cons_zero, List.set_cons_succ])
  refine wpAnyZ_ready (rs := [10]) (by kernel_rfl) (by simp) ?_
  refine AllReadyZ.late (o := { dst := some 5, op := Op.assign (Operand.tmp 29), type := 34, pos := "law.go:19", after := #[{ on := 8, ground := Ground.data }, { on := 9, ground := Ground.chain }, { on := 0, ground := Ground.phase }, { on := 1, ground := Ground.phase }, { on := 2, ground := Ground.phase }, { on := 3, ground := Ground.phase }, { on := 4, ground := Ground.phase }, { on := 5, ground := Ground.phase }, { on := 6, ground := Ground.phase }, { on := 7, ground := Ground.phase }, { on := 8, ground := Ground.phase }, { on := 9, ground := Ground.phase }], guard := none }) rfl (by simp) (fun KK hKK => ?_) AllReadyZ.nil
  go_simp
  refine hKK.out _ _ ?_
  clear hKK KK
  (try simp only [Act.put, List.setIfInBounds_toArray, List.set_cons_zero, List.set_cons_succ])
  refine wpAnyZ_done (by kernel_rfl) ?_ _
  clear CD0 CD1 ODr HDr Kr zr hHeld kr
  clear HD
  obtain ⟨cD0, cD1, fD0, fD1⟩ := OD.out.two
  go_wp2_with fail
  refine (read_any [w1.heap.size] _ 61 _ _ HD2.out (by omega)).mono ?_
  rintro e w10 ⟨rfl, hk⟩
  clear cD0 cD1 fD0 fD1
  replace OD := Lib.hid (OD.out.kept hk)
  replace HD2 := Lib.hid (HD2.out.go hk (Ext.refl _ _))
  replace K := K.trans hk
  rw [HP4.out]
  clear hk
  obtain ⟨cD0, cD1, fD0, fD1⟩ := OD.out.two
  go_wp2_with fail
  refine (repair_any [] _ _ _ (HT.out.kept K) (HD2.out.weak (fun _ h => by cases h)) (fun _ h => by cases h)).mono ?_
  rintro e w11 ⟨r9, rfl, hr9, hk⟩
  clear cD0 cD1 fD0 fD1
  replace OD := Lib.hid (OD.out.kept hk)
  replace HD2 := Lib.hid (HD2.out.go hk (Ext.refl _ _))
  replace K := K.trans hk
  rw [HP5.out] at hr9
  obtain ⟨Q9, q9, rfl, _, _, _⟩ := hr9
  clear hk
  go_wp2
  go_ret
  exact ⟨rfl, K⟩
end Go.Proofs.YtagpimahicgkmaaDoor
