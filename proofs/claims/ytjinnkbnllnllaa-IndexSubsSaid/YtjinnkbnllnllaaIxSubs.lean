/- Walk: mailsacklaw15.IndexSubs. -/
import Derived.Test.YtjinnkbnllnllaaL15Subs
namespace Go.Proofs.Ytjinnkbnllnllaa
open Go.RowKit

set_option maxRecDepth 100000 in
set_option maxHeartbeats 4000000 in
theorem subs_any (x : Ix) (v : Value) (nm : ByteArray) (w : World) (h : IxAt [] w v x) (hok : IxOk x) (hroom : Room x) (hnm : nm.size ≤ maxLen) :
    Calls Try.prog 5 #[v, .string nm] w fun e w' => e = .returned (.bool true) ∧ Kept w w' := by
  have H := Lib.hid h
  have HOK := Lib.hid hok
  have HROOM := Lib.hid hroom
  have HNS := Lib.hid hnm
  unfold maxLen at hnm
  obtain ⟨A, c, A', c', rfl, hc1, hc2, hc3, hc4, hbx, hrow⟩ := h.open_
  clear hbx hrow h hok hroom
  unfold maxLen at hc2 hc4
  generalize hn : x.boxes.length = n at *
  generalize hm : x.subs.length = m at *
  generalize hg : x.given = gv at *
  have HN := Lib.hid hn
  have HM := Lib.hid hm
  have HG := Lib.hid hg
  clear hn hm hg
  go_enter Try.func5, Try.ntmps5
  go_wp2_with fail
  refine (ref_same x _ _ (H.out.go ((Kept.refl w).alloc _) (Ext.refl _ _)) HROOM.out).mono ?_
  rintro e w1 ⟨v1, rfl, hr1, hk1⟩
  have HR1 := Lib.hid hr1
  clear hr1
  go_wp2_with fail
  refine (small_any x _ _ HR1.out).mono ?_
  rintro e w2 ⟨rfl, hk2⟩
  have kx : Kept (w.alloc (.cells #[.slice A n c, .slice A' m c', .int .i64 gv] 25)) w2 := hk1.trans hk2
  have OX := Lib.hid ((Own.new w 25 [.slice A n c, .slice A' m c', .int .i64 gv]).kept kx)
  have hkw2 : Kept w w2 := ((Kept.refl w).alloc _).trans kx
  clear hk1 hk2 HR1 kx
  by_cases hsm : smallB x = false
  · rw [hsm]
    clear hsm
    go_wp2_with fail
    refine (awake_any _).mono ?_
    rintro e w3 ⟨rfl, hk3⟩
    go_wp2
    go_ret
    exact ⟨rfl, hkw2.trans hk3⟩
  replace hsm : smallB x = true := by simpa using hsm
  rw [hsm]
  clear hsm
  by_cases h100 : 100 < nm.size
  · have h100' : (100 : Int) < (nm.size : Int) := by omega
    go_wp2_with fail
    refine (awake_any _).mono ?_
    rintro e w3 ⟨rfl, hk3⟩
    go_wp2
    go_ret
    exact ⟨rfl, hkw2.trans hk3⟩
  obtain ⟨q1, q2, q3, _, _, _⟩ := OX.out.three
  have h100' : ¬ (100 : Int) < (nm.size : Int) := by omega
  go_wp2_with fail
  refine (sub_any x _ nm true w2 (H.out.go hkw2 (Ext.refl _ _)) HOK.out HNS.out).mono ?_
  rintro e w3 ⟨v3, rfl, hv3, hk3⟩
  have OX3 := Lib.hid (OX.out.kept hk3)
  have hkw3 := hkw2.trans hk3
  clear OX q1 q2 q3 hk3 hkw2 h100 h100'
  rcases subR_cases x nm HOK.out HNS.out HROOM.out with ⟨er, he, hne⟩ | ⟨a, d, ha1, ha2, ha3, ha4, hoka, hra, hrd⟩
  · rw [he] at hv3 ⊢
    obtain ⟨A3, c3, A3', c3', rfl⟩ := hv3.form
    clear hv3 he
    simp only [show ix0.boxes.length = 0 from rfl, show ix0.subs.length = 0 from rfl, show ix0.given = 0 from rfl]
    have hne' := bne_t hne
    clear hne
    go_wp2_with fail
    refine (awake_any _).mono ?_
    rintro e w4 ⟨rfl, hk4⟩
    go_wp2
    go_ret
    exact ⟨rfl, (hkw3.alloc _).trans hk4⟩
  · rw [ha1] at hv3 ⊢
    have HA2 := Lib.hid ha2
    have HA3 := Lib.hid ha3
    have HA4 := Lib.hid ha4
    have HOKA := Lib.hid hoka
    have HRA := Lib.hid hra
    have HRD := Lib.hid hrd
    clear ha1 ha2 ha3 ha4 hoka hra hrd
    simp only at hv3 ⊢
    have HV3 := Lib.hid hv3
    obtain ⟨A3, c3, B3, d3, rfl⟩ := hv3.form
    clear hv3
    generalize a.boxes.length = n3 at HV3 ⊢
    generalize a.subs.length = m3 at HV3 ⊢
    generalize a.given = g3 at HV3 ⊢
    go_wp2_with fail
    refine (sub_any a _ nm true _ (HV3.out.go ((Kept.refl w3).alloc _) (Ext.refl _ _)) HOKA.out HNS.out).mono ?_
    rintro e w4 ⟨v4, rfl, hv4, hk4⟩
    rw [HA2.out] at hv4 ⊢
    simp only at hv4 ⊢
    have k34 : Kept w3 w4 := ((Kept.refl w3).alloc _).trans hk4
    have OX4 := Lib.hid (OX3.out.kept k34)
    have OA4 := Lib.hid ((Own.new w3 25 [.slice A3 n3 c3, .slice B3 m3 d3, .int .i64 g3]).kept hk4)
    have HV3' := Lib.hid (HV3.out.go k34 (Ext.refl _ _))
    have hkw4 := hkw3.trans k34
    clear hk4 k34 OX3 HV3 hkw3
    have HV4 := Lib.hid hv4
    obtain ⟨A4, c4, B4, d4, rfl⟩ := hv4.form
    clear hv4
    generalize a.boxes.length = n4 at HV4 ⊢
    generalize a.subs.length = m4 at HV4 ⊢
    generalize a.given = g4 at HV4 ⊢
    obtain ⟨q1, q2, q3, _, _, _⟩ := OA4.out.three
    have ql := OA4.out.lt
    go_wp2_with fail
    refine (sub_any a _ nm false _ (HV3'.out.go ((Kept.refl w4).alloc _) (Ext.refl _ _)) HOKA.out HNS.out).mono ?_
    rintro e w5 ⟨v5, rfl, hv5, hk5⟩
    rw [HA3.out] at hv5 ⊢
    simp only at hv5 ⊢
    have k45 : Kept w4 w5 := ((Kept.refl w4).alloc _).trans hk5
    have OX5 := Lib.hid (OX4.out.kept k45)
    have OA5 := Lib.hid (OA4.out.kept k45)
    have OB5 := Lib.hid ((Own.new w4 25 [.slice A4 n4 c4, .slice B4 m4 d4, .int .i64 g4]).kept hk5)
    have HV35 := Lib.hid (HV3'.out.go k45 (Ext.refl _ _))
    have HV45 := Lib.hid (HV4.out.go k45 (Ext.refl _ _))
    have hkw5 := hkw4.trans k45
    clear hk5 k45 OX4 OA4 HV3' HV4 hkw4 q1 q2 q3 ql
    have HV5 := Lib.hid hv5
    obtain ⟨A5, c5, B5, d5, rfl⟩ := hv5.form
    clear hv5
    generalize d.boxes.length = n5 at HV5 ⊢
    generalize d.subs.length = m5 at HV5 ⊢
    generalize d.given = g5 at HV5 ⊢
    obtain ⟨q1, q2, q3, _, _, _⟩ := OX5.out.three
    have ql := OX5.out.lt
    go_wp2_with fail
    refine (sub_any x _ nm false _ (H.out.go (hkw5.alloc _) (Ext.refl _ _)) HOK.out HNS.out).mono ?_
    rintro e w6 ⟨v6, rfl, hv6, hk6⟩
    rw [HA4.out] at hv6 ⊢
    simp only at hv6 ⊢
    have k56 : Kept w5 w6 := ((Kept.refl w5).alloc _).trans hk6
    have HV6 := Lib.hid hv6
    obtain ⟨A6, c6, B6, d6, rfl⟩ := hv6.form
    clear hv6
    generalize d.boxes.length = n6 at HV6 ⊢
    generalize d.subs.length = m6 at HV6 ⊢
    generalize d.given = g6 at HV6 ⊢
    have k67 : Kept w6 (w6.alloc (.cells #[.slice A6 n6 c6, .slice B6 m6 d6, .int .i64 g6] 25)) := (Kept.refl w6).alloc _
    have OA7 := Lib.hid (OA5.out.kept (k56.trans k67))
    have OB7 := Lib.hid (OB5.out.kept (k56.trans k67))
    have OC7 := Lib.hid ((Own.new w5 25 [.slice A5 n5 c5, .slice B5 m5 d5, .int .i64 g5]).kept (hk6.trans k67))
    have OD7 := Lib.hid (Own.new w6 25 [.slice A6 n6 c6, .slice B6 m6 d6, .int .i64 g6])
    have HVA := Lib.hid (HV35.out.go (k56.trans k67) (Ext.refl _ _))
    have HVB := Lib.hid (HV45.out.go (k56.trans k67) (Ext.refl _ _))
    have HVC := Lib.hid (HV5.out.go (k56.trans k67) (Ext.refl _ _))
    have HVD := Lib.hid (HV6.out.go k67 (Ext.refl _ _))
    have hkw7 := hkw5.trans (k56.trans k67)
    clear hk6 k56 k67 OX5 OA5 OB5 HV35 HV45 HV5 HV6 hkw5 q1 q2 q3 ql
    go_upto_region 14 with fail
    have e8 : ∃ z, z = w6.alloc (.cells #[.slice A6 n6 c6, .slice B6 m6 d6, .int .i64 g6] 25) := ⟨_, rfl⟩
    obtain ⟨w8, hw8⟩ := e8
    rw [← hw8] at OA7 OB7 OC7 OD7 HVA HVB HVC HVD hkw7 ⊢
    clear hw8
    refine wp_region_Z (S := fun W => Kept w8 W) (Z := []) (by kernel_rfl) ((Kept.refl w8).drew) (fun hHeld => ?_)
    generalize w8.drew = w9 at *
    have k9 : Kept w8 w9 := hHeld
    refine wpAnyZ_take (i := 0) (oi := { dst := some 56, op := Op.move (Operand.tmp 8), type := 32, pos := "law.go:239", after := #[], guard := none }) (v := ?_) rfl (by kernel_rfl) (fun _ _ _ h => h) (Or.inl ⟨by rfl, ?_⟩) (by assumption) ?_
    rotate_left
    · (intro wz hSw; obtain ⟨a1, a2, a3, _, _, _⟩ := (OA7.out.kept hSw).three; have a4 := (OA7.out.kept hSw).lt; obtain ⟨b1, b2, b3, _, _, _⟩ := (OB7.out.kept hSw).three; have b4 := (OB7.out.kept hSw).lt; obtain ⟨y1, y2, y3, _, _, _⟩ := (OC7.out.kept hSw).three; have y4 := (OC7.out.kept hSw).lt; obtain ⟨z1, z2, z3, _, _, _⟩ := (OD7.out.kept hSw).three; have z4 := (OD7.out.kept hSw).lt; go_simp; (try with_reducible rfl))
    (try simp only [Act.put, List.setIfInBounds_toArray, List.set_cons_zero, List.set_cons_succ])
    refine wpAnyZ_take (i := 1) (oi := { dst := some 57, op := Op.binOp BinOp.eql 32 (Operand.tmp 56) (Operand.const (Value.int IntKind.i64 0)) 32, type := 4, pos := "law.go:239", after := #[{ on := 0, ground := Ground.data }], guard := none }) (v := ?_) rfl (by kernel_rfl) (fun _ _ _ h => h) (Or.inl ⟨by rfl, ?_⟩) (by assumption) ?_
    rotate_left
    · (intro wz hSw; obtain ⟨a1, a2, a3, _, _, _⟩ := (OA7.out.kept hSw).three; have a4 := (OA7.out.kept hSw).lt; obtain ⟨b1, b2, b3, _, _, _⟩ := (OB7.out.kept hSw).three; have b4 := (OB7.out.kept hSw).lt; obtain ⟨y1, y2, y3, _, _, _⟩ := (OC7.out.kept hSw).three; have y4 := (OC7.out.kept hSw).lt; obtain ⟨z1, z2, z3, _, _, _⟩ := (OD7.out.kept hSw).three; have z4 := (OD7.out.kept hSw).lt; go_simp; (try with_reducible rfl))
    (try simp only [Act.put, List.setIfInBounds_toArray, List.set_cons_zero, List.set_cons_succ])
    refine wpAnyZ_take (i := 2) (oi := { dst := some 58, op := Op.move (Operand.tmp 57), type := 4, pos := "law.go:239", after := #[{ on := 1, ground := Ground.data }], guard := none }) (v := ?_) rfl (by kernel_rfl) (fun _ _ _ h => h) (Or.inl ⟨by rfl, ?_⟩) (by assumption) ?_
    rotate_left
    · (intro wz hSw; obtain ⟨a1, a2, a3, _, _, _⟩ := (OA7.out.kept hSw).three; have a4 := (OA7.out.kept hSw).lt; obtain ⟨b1, b2, b3, _, _, _⟩ := (OB7.out.kept hSw).three; have b4 := (OB7.out.kept hSw).lt; obtain ⟨y1, y2, y3, _, _, _⟩ := (OC7.out.kept hSw).three; have y4 := (OC7.out.kept hSw).lt; obtain ⟨z1, z2, z3, _, _, _⟩ := (OD7.out.kept hSw).three; have z4 := (OD7.out.kept hSw).lt; go_simp; (try with_reducible rfl))
    (try simp only [Act.put, List.setIfInBounds_toArray, List.set_cons_zero, List.set_cons_succ])
    refine wpAnyZ_take (i := 3) (oi := { dst := some 59, op := Op.move (Operand.tmp 10), type := 32, pos := "law.go:239", after := #[{ on := 2, ground := Ground.guard }], guard := some (2, true) }) (v := ?_) rfl (by kernel_rfl) (fun _ _ _ h => h) (Or.inl ⟨by rfl, ?_⟩) (by assumption) ?_
    rotate_left
    · (intro wz hSw; obtain ⟨a1, a2, a3, _, _, _⟩ := (OA7.out.kept hSw).three; have a4 := (OA7.out.kept hSw).lt; obtain ⟨b1, b2, b3, _, _, _⟩ := (OB7.out.kept hSw).three; have b4 := (OB7.out.kept hSw).lt; obtain ⟨y1, y2, y3, _, _, _⟩ := (OC7.out.kept hSw).three; have y4 := (OC7.out.kept hSw).lt; obtain ⟨z1, z2, z3, _, _, _⟩ := (OD7.out.kept hSw).three; have z4 := (OD7.out.kept hSw).lt; go_simp; (try with_reducible rfl))
    (try simp only [Act.put, List.setIfInBounds_toArray, List.set_cons_zero, List.set_cons_succ])
    refine wpAnyZ_take (i := 4) (oi := { dst := some 60, op := Op.binOp BinOp.eql 32 (Operand.tmp 59) (Operand.const (Value.int IntKind.i64 0)) 32, type := 4, pos := "law.go:239", after := #[{ on := 3, ground := Ground.data }, { on := 2, ground := Ground.guard }], guard := some (2, true) }) (v := ?_) rfl (by kernel_rfl) (fun _ _ _ h => h) (Or.inl ⟨by rfl, ?_⟩) (by assumption) ?_
    rotate_left
    · (intro wz hSw; obtain ⟨a1, a2, a3, _, _, _⟩ := (OA7.out.kept hSw).three; have a4 := (OA7.out.kept hSw).lt; obtain ⟨b1, b2, b3, _, _, _⟩ := (OB7.out.kept hSw).three; have b4 := (OB7.out.kept hSw).lt; obtain ⟨y1, y2, y3, _, _, _⟩ := (OC7.out.kept hSw).three; have y4 := (OC7.out.kept hSw).lt; obtain ⟨z1, z2, z3, _, _, _⟩ := (OD7.out.kept hSw).three; have z4 := (OD7.out.kept hSw).lt; go_simp; (try with_reducible rfl))
    (try simp only [Act.put, List.setIfInBounds_toArray, List.set_cons_zero, List.set_cons_succ])
    refine wpAnyZ_take (i := 5) (oi := { dst := some 61, op := Op.pick (Operand.tmp 58) (Operand.tmp 60) (Operand.const (Value.bool false)), type := 4, pos := "law.go:239", after := #[{ on := 2, ground := Ground.data }, { on := 4, ground := Ground.data }], guard := none }) (v := ?_) rfl (by kernel_rfl) (fun _ _ _ h => h) (Or.inl ⟨by rfl, ?_⟩) (by assumption) ?_
    rotate_left
    · (intro wz hSw; obtain ⟨a1, a2, a3, _, _, _⟩ := (OA7.out.kept hSw).three; have a4 := (OA7.out.kept hSw).lt; obtain ⟨b1, b2, b3, _, _, _⟩ := (OB7.out.kept hSw).three; have b4 := (OB7.out.kept hSw).lt; obtain ⟨y1, y2, y3, _, _, _⟩ := (OC7.out.kept hSw).three; have y4 := (OC7.out.kept hSw).lt; obtain ⟨z1, z2, z3, _, _, _⟩ := (OD7.out.kept hSw).three; have z4 := (OD7.out.kept hSw).lt; go_simp; (try with_reducible rfl))
    (try simp only [Act.put, List.setIfInBounds_toArray, List.set_cons_zero, List.set_cons_succ])
    refine wpAnyZ_take (i := 6) (oi := { dst := some 62, op := Op.move (Operand.tmp 61), type := 4, pos := "law.go:239", after := #[{ on := 5, ground := Ground.data }, { on := 2, ground := Ground.chain }], guard := none }) (v := ?_) rfl (by kernel_rfl) (fun _ _ _ h => h) (Or.inl ⟨by rfl, ?_⟩) (by assumption) ?_
    rotate_left
    · (intro wz hSw; obtain ⟨a1, a2, a3, _, _, _⟩ := (OA7.out.kept hSw).three; have a4 := (OA7.out.kept hSw).lt; obtain ⟨b1, b2, b3, _, _, _⟩ := (OB7.out.kept hSw).three; have b4 := (OB7.out.kept hSw).lt; obtain ⟨y1, y2, y3, _, _, _⟩ := (OC7.out.kept hSw).three; have y4 := (OC7.out.kept hSw).lt; obtain ⟨z1, z2, z3, _, _, _⟩ := (OD7.out.kept hSw).three; have z4 := (OD7.out.kept hSw).lt; go_simp; (try with_reducible rfl))
    (try simp only [Act.put, List.setIfInBounds_toArray, List.set_cons_zero, List.set_cons_succ])
    refine wpAnyZ_take (i := 7) (oi := { dst := some 63, op := Op.move (Operand.tmp 12), type := 32, pos := "law.go:239", after := #[{ on := 6, ground := Ground.guard }], guard := some (6, true) }) (v := ?_) rfl (by kernel_rfl) (fun _ _ _ h => h) (Or.inl ⟨by rfl, ?_⟩) (by assumption) ?_
    rotate_left
    · (intro wz hSw; obtain ⟨a1, a2, a3, _, _, _⟩ := (OA7.out.kept hSw).three; have a4 := (OA7.out.kept hSw).lt; obtain ⟨b1, b2, b3, _, _, _⟩ := (OB7.out.kept hSw).three; have b4 := (OB7.out.kept hSw).lt; obtain ⟨y1, y2, y3, _, _, _⟩ := (OC7.out.kept hSw).three; have y4 := (OC7.out.kept hSw).lt; obtain ⟨z1, z2, z3, _, _, _⟩ := (OD7.out.kept hSw).three; have z4 := (OD7.out.kept hSw).lt; go_simp; (try with_reducible rfl))
    (try simp only [Act.put, List.setIfInBounds_toArray, List.set_cons_zero, List.set_cons_succ])
    refine wpAnyZ_take (i := 8) (oi := { dst := some 64, op := Op.binOp BinOp.eql 32 (Operand.tmp 63) (Operand.const (Value.int IntKind.i64 0)) 32, type := 4, pos := "law.go:239", after := #[{ on := 7, ground := Ground.data }, { on := 6, ground := Ground.guard }], guard := some (6, true) }) (v := ?_) rfl (by kernel_rfl) (fun _ _ _ h => h) (Or.inl ⟨by rfl, ?_⟩) (by assumption) ?_
    rotate_left
    · (intro wz hSw; obtain ⟨a1, a2, a3, _, _, _⟩ := (OA7.out.kept hSw).three; have a4 := (OA7.out.kept hSw).lt; obtain ⟨b1, b2, b3, _, _, _⟩ := (OB7.out.kept hSw).three; have b4 := (OB7.out.kept hSw).lt; obtain ⟨y1, y2, y3, _, _, _⟩ := (OC7.out.kept hSw).three; have y4 := (OC7.out.kept hSw).lt; obtain ⟨z1, z2, z3, _, _, _⟩ := (OD7.out.kept hSw).three; have z4 := (OD7.out.kept hSw).lt; go_simp; (try with_reducible rfl))
    (try simp only [Act.put, List.setIfInBounds_toArray, List.set_cons_zero, List.set_cons_succ])
    refine wpAnyZ_take (i := 9) (oi := { dst := some 65, op := Op.pick (Operand.tmp 62) (Operand.tmp 64) (Operand.const (Value.bool false)), type := 4, pos := "law.go:239", after := #[{ on := 6, ground := Ground.data }, { on := 8, ground := Ground.data }], guard := none }) (v := ?_) rfl (by kernel_rfl) (fun _ _ _ h => h) (Or.inl ⟨by rfl, ?_⟩) (by assumption) ?_
    rotate_left
    · (intro wz hSw; obtain ⟨a1, a2, a3, _, _, _⟩ := (OA7.out.kept hSw).three; have a4 := (OA7.out.kept hSw).lt; obtain ⟨b1, b2, b3, _, _, _⟩ := (OB7.out.kept hSw).three; have b4 := (OB7.out.kept hSw).lt; obtain ⟨y1, y2, y3, _, _, _⟩ := (OC7.out.kept hSw).three; have y4 := (OC7.out.kept hSw).lt; obtain ⟨z1, z2, z3, _, _, _⟩ := (OD7.out.kept hSw).three; have z4 := (OD7.out.kept hSw).lt; go_simp; (try with_reducible rfl))
    (try simp only [Act.put, List.setIfInBounds_toArray, List.set_cons_zero, List.set_cons_succ])
    refine wpAnyZ_take (i := 10) (oi := { dst := some 66, op := Op.move (Operand.tmp 65), type := 4, pos := "law.go:239", after := #[{ on := 9, ground := Ground.data }, { on := 6, ground := Ground.chain }], guard := none }) (v := ?_) rfl (by kernel_rfl) (fun _ _ _ h => h) (Or.inl ⟨by rfl, ?_⟩) (by assumption) ?_
    rotate_left
    · (intro wz hSw; obtain ⟨a1, a2, a3, _, _, _⟩ := (OA7.out.kept hSw).three; have a4 := (OA7.out.kept hSw).lt; obtain ⟨b1, b2, b3, _, _, _⟩ := (OB7.out.kept hSw).three; have b4 := (OB7.out.kept hSw).lt; obtain ⟨y1, y2, y3, _, _, _⟩ := (OC7.out.kept hSw).three; have y4 := (OC7.out.kept hSw).lt; obtain ⟨z1, z2, z3, _, _, _⟩ := (OD7.out.kept hSw).three; have z4 := (OD7.out.kept hSw).lt; go_simp; (try with_reducible rfl))
    (try simp only [Act.put, List.setIfInBounds_toArray, List.set_cons_zero, List.set_cons_succ])
    refine wpAnyZ_take (i := 11) (oi := { dst := some 67, op := Op.load 25 (Operand.tmp 5), type := 25, pos := "law.go:239", after := #[{ on := 10, ground := Ground.guard }], guard := some (10, true) }) (v := ?_) rfl (by kernel_rfl) (fun _ _ _ h => h) (Or.inl ⟨by rfl, ?_⟩) (by assumption) ?_
    rotate_left
    · (intro wz hSw; obtain ⟨a1, a2, a3, _, _, _⟩ := (OA7.out.kept hSw).three; have a4 := (OA7.out.kept hSw).lt; obtain ⟨b1, b2, b3, _, _, _⟩ := (OB7.out.kept hSw).three; have b4 := (OB7.out.kept hSw).lt; obtain ⟨y1, y2, y3, _, _, _⟩ := (OC7.out.kept hSw).three; have y4 := (OC7.out.kept hSw).lt; obtain ⟨z1, z2, z3, _, _, _⟩ := (OD7.out.kept hSw).three; have z4 := (OD7.out.kept hSw).lt; go_simp; (try with_reducible rfl))
    (try simp only [Act.put, List.setIfInBounds_toArray, List.set_cons_zero, List.set_cons_succ])
    refine wpAnyZ_take (i := 13) (oi := { dst := some 69, op := Op.load 25 (Operand.tmp 7), type := 25, pos := "law.go:239", after := #[{ on := 10, ground := Ground.guard }], guard := some (10, true) }) (v := ?_) rfl (by kernel_rfl) (fun _ _ _ h => h) (Or.inl ⟨by rfl, ?_⟩) (by assumption) ?_
    rotate_left
    · (intro wz hSw; obtain ⟨a1, a2, a3, _, _, _⟩ := (OA7.out.kept hSw).three; have a4 := (OA7.out.kept hSw).lt; obtain ⟨b1, b2, b3, _, _, _⟩ := (OB7.out.kept hSw).three; have b4 := (OB7.out.kept hSw).lt; obtain ⟨y1, y2, y3, _, _, _⟩ := (OC7.out.kept hSw).three; have y4 := (OC7.out.kept hSw).lt; obtain ⟨z1, z2, z3, _, _, _⟩ := (OD7.out.kept hSw).three; have z4 := (OD7.out.kept hSw).lt; go_simp; (try with_reducible rfl))
    (try simp only [Act.put, List.setIfInBounds_toArray, List.set_cons_zero, List.set_cons_succ])
    refine wpAnyZ_ready (rs := [12]) (by kernel_rfl) (by simp) ?_
    refine AllReadyZ.cons (o := { dst := some 68, op := Op.call { callee := Callee.value (Operand.func 9), args := #[Operand.tmp 67], argTypes := #[25] }, type := 29, pos := "law.go:239", after := #[{ on := 11, ground := Ground.data }, { on := 10, ground := Ground.chain }, { on := 10, ground := Ground.guard }], guard := some (10, true) }) rfl (fun K hK => ?_) AllReadyZ.nil
    go_simp
    refine (ref_same a _ w9 (HVA.out.go k9 (Ext.refl _ _)) HRA.out).mono ?_
    rintro e u1 ⟨va, rfl, hva, hku1⟩
    have ku1 : Kept w8 u1 := k9.trans hku1
    have Hva := Lib.hid hva
    clear hva
    clear hku1
    go_wp2_with fail
    refine hK.out _ _ ?_ (fun hHeld => ?_)
    · exact ku1
    clear hK K
    (try simp only [Act.put, List.setIfInBounds_toArray, List.set_cons_zero, List.set_cons_succ])
    refine wpAnyZ_ready (rs := [14]) (by kernel_rfl) (by simp) ?_
    refine AllReadyZ.cons (o := { dst := some 70, op := Op.call { callee := Callee.value (Operand.func 9), args := #[Operand.tmp 69], argTypes := #[25] }, type := 29, pos := "law.go:239", after := #[{ on := 13, ground := Ground.data }, { on := 12, ground := Ground.chain }, { on := 10, ground := Ground.guard }], guard := some (10, true) }) rfl (fun K hK => ?_) AllReadyZ.nil
    go_simp
    refine (ref_same a _ u1 (HVB.out.go ku1 (Ext.refl _ _)) HRA.out).mono ?_
    rintro e u2 ⟨vb, rfl, hvb, hku2⟩
    have ku2 : Kept w8 u2 := ku1.trans hku2
    have Hvb := Lib.hid hvb
    clear hvb
    have Hva_2 := Lib.hid (Hva.out.go hku2 (Ext.refl _ _))
    clear hku2
    go_wp2_with fail
    refine hK.out _ _ ?_ (fun hHeld => ?_)
    · exact ku2
    clear hK K
    (try simp only [Act.put, List.setIfInBounds_toArray, List.set_cons_zero, List.set_cons_succ])
    refine wpAnyZ_ready (rs := [15]) (by kernel_rfl) (by simp) ?_
    refine AllReadyZ.cons (o := { dst := some 71, op := Op.call { callee := Callee.value (Operand.func 14), args := #[Operand.tmp 68, Operand.tmp 70], argTypes := #[29, 29] }, type := 4, pos := "law.go:239", after := #[{ on := 12, ground := Ground.data }, { on := 14, ground := Ground.data }, { on := 14, ground := Ground.chain }, { on := 10, ground := Ground.guard }], guard := some (10, true) }) rfl (fun K hK => ?_) AllReadyZ.nil
    go_simp
    refine (equal_any a _ _ u2 Hva_2.out Hvb.out).mono ?_
    rintro e u3 ⟨rfl, hku3⟩
    have ku3 : Kept w8 u3 := ku2.trans hku3
    clear hku3
    go_wp2_with fail
    refine hK.out _ _ ?_ (fun hHeld => ?_)
    · exact ku3
    clear hK K
    (try simp only [Act.put, List.setIfInBounds_toArray, List.set_cons_zero, List.set_cons_succ])
    refine wpAnyZ_take (i := 16) (oi := { dst := some 72, op := Op.pick (Operand.tmp 66) (Operand.tmp 71) (Operand.const (Value.bool false)), type := 4, pos := "law.go:239", after := #[{ on := 10, ground := Ground.data }, { on := 15, ground := Ground.data }], guard := none }) (v := ?_) rfl (by kernel_rfl) (fun _ _ _ h => h) (Or.inl ⟨by rfl, ?_⟩) (by assumption) ?_
    rotate_left
    · (intro wz hSw; obtain ⟨a1, a2, a3, _, _, _⟩ := (OA7.out.kept hSw).three; have a4 := (OA7.out.kept hSw).lt; obtain ⟨b1, b2, b3, _, _, _⟩ := (OB7.out.kept hSw).three; have b4 := (OB7.out.kept hSw).lt; obtain ⟨y1, y2, y3, _, _, _⟩ := (OC7.out.kept hSw).three; have y4 := (OC7.out.kept hSw).lt; obtain ⟨z1, z2, z3, _, _, _⟩ := (OD7.out.kept hSw).three; have z4 := (OD7.out.kept hSw).lt; go_simp; (try with_reducible rfl))
    (try simp only [Act.put, List.setIfInBounds_toArray, List.set_cons_zero, List.set_cons_succ])
    refine wpAnyZ_take (i := 17) (oi := { dst := some 73, op := Op.move (Operand.tmp 72), type := 4, pos := "law.go:239", after := #[{ on := 16, ground := Ground.data }, { on := 15, ground := Ground.chain }], guard := none }) (v := ?_) rfl (by kernel_rfl) (fun _ _ _ h => h) (Or.inl ⟨by rfl, ?_⟩) (by assumption) ?_
    rotate_left
    · (intro wz hSw; obtain ⟨a1, a2, a3, _, _, _⟩ := (OA7.out.kept hSw).three; have a4 := (OA7.out.kept hSw).lt; obtain ⟨b1, b2, b3, _, _, _⟩ := (OB7.out.kept hSw).three; have b4 := (OB7.out.kept hSw).lt; obtain ⟨y1, y2, y3, _, _, _⟩ := (OC7.out.kept hSw).three; have y4 := (OC7.out.kept hSw).lt; obtain ⟨z1, z2, z3, _, _, _⟩ := (OD7.out.kept hSw).three; have z4 := (OD7.out.kept hSw).lt; go_simp; (try with_reducible rfl))
    (try simp only [Act.put, List.setIfInBounds_toArray, List.set_cons_zero, List.set_cons_succ])
    refine wpAnyZ_take (i := 18) (oi := { dst := some 74, op := Op.load 25 (Operand.tmp 9), type := 25, pos := "law.go:239", after := #[{ on := 17, ground := Ground.guard }], guard := some (17, true) }) (v := ?_) rfl (by kernel_rfl) (fun _ _ _ h => h) (Or.inl ⟨by rfl, ?_⟩) (by assumption) ?_
    rotate_left
    · (intro wz hSw; obtain ⟨a1, a2, a3, _, _, _⟩ := (OA7.out.kept hSw).three; have a4 := (OA7.out.kept hSw).lt; obtain ⟨b1, b2, b3, _, _, _⟩ := (OB7.out.kept hSw).three; have b4 := (OB7.out.kept hSw).lt; obtain ⟨y1, y2, y3, _, _, _⟩ := (OC7.out.kept hSw).three; have y4 := (OC7.out.kept hSw).lt; obtain ⟨z1, z2, z3, _, _, _⟩ := (OD7.out.kept hSw).three; have z4 := (OD7.out.kept hSw).lt; go_simp; (try with_reducible rfl))
    (try simp only [Act.put, List.setIfInBounds_toArray, List.set_cons_zero, List.set_cons_succ])
    refine wpAnyZ_take (i := 20) (oi := { dst := some 76, op := Op.load 25 (Operand.tmp 11), type := 25, pos := "law.go:239", after := #[{ on := 17, ground := Ground.guard }], guard := some (17, true) }) (v := ?_) rfl (by kernel_rfl) (fun _ _ _ h => h) (Or.inl ⟨by rfl, ?_⟩) (by assumption) ?_
    rotate_left
    · (intro wz hSw; obtain ⟨a1, a2, a3, _, _, _⟩ := (OA7.out.kept hSw).three; have a4 := (OA7.out.kept hSw).lt; obtain ⟨b1, b2, b3, _, _, _⟩ := (OB7.out.kept hSw).three; have b4 := (OB7.out.kept hSw).lt; obtain ⟨y1, y2, y3, _, _, _⟩ := (OC7.out.kept hSw).three; have y4 := (OC7.out.kept hSw).lt; obtain ⟨z1, z2, z3, _, _, _⟩ := (OD7.out.kept hSw).three; have z4 := (OD7.out.kept hSw).lt; go_simp; (try with_reducible rfl))
    (try simp only [Act.put, List.setIfInBounds_toArray, List.set_cons_zero, List.set_cons_succ])
    refine wpAnyZ_ready (rs := [19]) (by kernel_rfl) (by simp) ?_
    refine AllReadyZ.cons (o := { dst := some 75, op := Op.call { callee := Callee.value (Operand.func 9), args := #[Operand.tmp 74], argTypes := #[25] }, type := 29, pos := "law.go:239", after := #[{ on := 18, ground := Ground.data }, { on := 17, ground := Ground.chain }, { on := 17, ground := Ground.guard }], guard := some (17, true) }) rfl (fun K hK => ?_) AllReadyZ.nil
    go_simp
    refine (ref_same d _ u3 (HVC.out.go ku3 (Ext.refl _ _)) HRD.out).mono ?_
    rintro e u4 ⟨vc, rfl, hvc, hku4⟩
    have ku4 : Kept w8 u4 := ku3.trans hku4
    have Hvc := Lib.hid hvc
    clear hvc
    clear hku4
    go_wp2_with fail
    refine hK.out _ _ ?_ (fun hHeld => ?_)
    · exact ku4
    clear hK K
    (try simp only [Act.put, List.setIfInBounds_toArray, List.set_cons_zero, List.set_cons_succ])
    refine wpAnyZ_ready (rs := [21]) (by kernel_rfl) (by simp) ?_
    refine AllReadyZ.cons (o := { dst := some 77, op := Op.call { callee := Callee.value (Operand.func 9), args := #[Operand.tmp 76], argTypes := #[25] }, type := 29, pos := "law.go:239", after := #[{ on := 20, ground := Ground.data }, { on := 19, ground := Ground.chain }, { on := 17, ground := Ground.guard }], guard := some (17, true) }) rfl (fun K hK => ?_) AllReadyZ.nil
    go_simp
    refine (ref_same d _ u4 (HVD.out.go ku4 (Ext.refl _ _)) HRD.out).mono ?_
    rintro e u5 ⟨vd, rfl, hvd, hku5⟩
    have ku5 : Kept w8 u5 := ku4.trans hku5
    have Hvd := Lib.hid hvd
    clear hvd
    have Hvc_5 := Lib.hid (Hvc.out.go hku5 (Ext.refl _ _))
    clear hku5
    go_wp2_with fail
    refine hK.out _ _ ?_ (fun hHeld => ?_)
    · exact ku5
    clear hK K
    (try simp only [Act.put, List.setIfInBounds_toArray, List.set_cons_zero, List.set_cons_succ])
    refine wpAnyZ_ready (rs := [22]) (by kernel_rfl) (by simp) ?_
    refine AllReadyZ.cons (o := { dst := some 78, op := Op.call { callee := Callee.value (Operand.func 14), args := #[Operand.tmp 75, Operand.tmp 77], argTypes := #[29, 29] }, type := 4, pos := "law.go:239", after := #[{ on := 19, ground := Ground.data }, { on := 21, ground := Ground.data }, { on := 21, ground := Ground.chain }, { on := 17, ground := Ground.guard }], guard := some (17, true) }) rfl (fun K hK => ?_) AllReadyZ.nil
    go_simp
    refine (equal_any d _ _ u5 Hvc_5.out Hvd.out).mono ?_
    rintro e u6 ⟨rfl, hku6⟩
    have ku6 : Kept w8 u6 := ku5.trans hku6
    clear hku6
    go_wp2_with fail
    refine hK.out _ _ ?_ (fun hHeld => ?_)
    · exact ku6
    clear hK K
    (try simp only [Act.put, List.setIfInBounds_toArray, List.set_cons_zero, List.set_cons_succ])
    refine wpAnyZ_take (i := 23) (oi := { dst := some 79, op := Op.pick (Operand.tmp 73) (Operand.tmp 78) (Operand.const (Value.bool false)), type := 4, pos := "law.go:239", after := #[{ on := 17, ground := Ground.data }, { on := 22, ground := Ground.data }], guard := none }) (v := ?_) rfl (by kernel_rfl) (fun _ _ _ h => h) (Or.inl ⟨by rfl, ?_⟩) (by assumption) ?_
    rotate_left
    · (intro wz hSw; obtain ⟨a1, a2, a3, _, _, _⟩ := (OA7.out.kept hSw).three; have a4 := (OA7.out.kept hSw).lt; obtain ⟨b1, b2, b3, _, _, _⟩ := (OB7.out.kept hSw).three; have b4 := (OB7.out.kept hSw).lt; obtain ⟨y1, y2, y3, _, _, _⟩ := (OC7.out.kept hSw).three; have y4 := (OC7.out.kept hSw).lt; obtain ⟨z1, z2, z3, _, _, _⟩ := (OD7.out.kept hSw).three; have z4 := (OD7.out.kept hSw).lt; go_simp; (try with_reducible rfl))
    (try simp only [Act.put, List.setIfInBounds_toArray, List.set_cons_zero, List.set_cons_succ])
    refine wpAnyZ_take (i := 24) (oi := { dst := some 80, op := Op.move (Operand.tmp 79), type := 4, pos := "law.go:239", after := #[{ on := 23, ground := Ground.data }, { on := 22, ground := Ground.chain }], guard := none }) (v := ?_) rfl (by kernel_rfl) (fun _ _ _ h => h) (Or.inl ⟨by rfl, ?_⟩) (by assumption) ?_
    rotate_left
    · (intro wz hSw; obtain ⟨a1, a2, a3, _, _, _⟩ := (OA7.out.kept hSw).three; have a4 := (OA7.out.kept hSw).lt; obtain ⟨b1, b2, b3, _, _, _⟩ := (OB7.out.kept hSw).three; have b4 := (OB7.out.kept hSw).lt; obtain ⟨y1, y2, y3, _, _, _⟩ := (OC7.out.kept hSw).three; have y4 := (OC7.out.kept hSw).lt; obtain ⟨z1, z2, z3, _, _, _⟩ := (OD7.out.kept hSw).three; have z4 := (OD7.out.kept hSw).lt; go_simp; (try with_reducible rfl))
    (try simp only [Act.put, List.setIfInBounds_toArray, List.set_cons_zero, List.set_cons_succ])
    refine wpAnyZ_ready (rs := [25]) (by kernel_rfl) (by simp) ?_
    refine AllReadyZ.cons (o := { dst := some 81, op := Op.call { callee := Callee.value (Operand.func 10), args := #[], argTypes := #[] }, type := 4, pos := "law.go:239", after := #[{ on := 24, ground := Ground.chain }, { on := 24, ground := Ground.guard }], guard := some (24, true) }) rfl (fun K hK => ?_) AllReadyZ.nil
    go_simp
    refine (awake_any u6).mono ?_
    rintro e u7 ⟨rfl, hku7⟩
    have ku7 : Kept w8 u7 := ku6.trans hku7
    clear hku7
    go_wp2_with fail
    refine hK.out _ _ ?_ (fun hHeld => ?_)
    · exact ku7
    clear hK K
    (try simp only [Act.put, List.setIfInBounds_toArray, List.set_cons_zero, List.set_cons_succ])
    refine wpAnyZ_take (i := 26) (oi := { dst := some 82, op := Op.pick (Operand.tmp 80) (Operand.tmp 81) (Operand.const (Value.bool false)), type := 4, pos := "law.go:239", after := #[{ on := 24, ground := Ground.data }, { on := 25, ground := Ground.data }], guard := none }) (v := ?_) rfl (by kernel_rfl) (fun _ _ _ h => h) (Or.inl ⟨by rfl, ?_⟩) (by assumption) ?_
    rotate_left
    · (intro wz hSw; obtain ⟨a1, a2, a3, _, _, _⟩ := (OA7.out.kept hSw).three; have a4 := (OA7.out.kept hSw).lt; obtain ⟨b1, b2, b3, _, _, _⟩ := (OB7.out.kept hSw).three; have b4 := (OB7.out.kept hSw).lt; obtain ⟨y1, y2, y3, _, _, _⟩ := (OC7.out.kept hSw).three; have y4 := (OC7.out.kept hSw).lt; obtain ⟨z1, z2, z3, _, _, _⟩ := (OD7.out.kept hSw).three; have z4 := (OD7.out.kept hSw).lt; go_simp; (try with_reducible rfl))
    (try simp only [Act.put, List.setIfInBounds_toArray, List.set_cons_zero, List.set_cons_succ])
    refine wpAnyZ_take (i := 27) (oi := { dst := some 4, op := Op.assign (Operand.tmp 82), type := 4, pos := "law.go:239", after := #[{ on := 26, ground := Ground.data }, { on := 25, ground := Ground.chain }, { on := 0, ground := Ground.phase }, { on := 1, ground := Ground.phase }, { on := 2, ground := Ground.phase }, { on := 3, ground := Ground.phase }, { on := 4, ground := Ground.phase }, { on := 5, ground := Ground.phase }, { on := 6, ground := Ground.phase }, { on := 7, ground := Ground.phase }, { on := 8, ground := Ground.phase }, { on := 9, ground := Ground.phase }, { on := 10, ground := Ground.phase }, { on := 11, ground := Ground.phase }, { on := 12, ground := Ground.phase }, { on := 13, ground := Ground.phase }, { on := 14, ground := Ground.phase }, { on := 15, ground := Ground.phase }, { on := 16, ground := Ground.phase }, { on := 17, ground := Ground.phase }, { on := 18, ground := Ground.phase }, { on := 19, ground := Ground.phase }, { on := 20, ground := Ground.phase }, { on := 21, ground := Ground.phase }, { on := 22, ground := Ground.phase }, { on := 23, ground := Ground.phase }, { on := 24, ground := Ground.phase }, { on := 25, ground := Ground.phase }, { on := 26, ground := Ground.phase }], guard := none }) (v := ?_) rfl (by kernel_rfl) (fun _ _ _ h => h) (Or.inl ⟨by rfl, ?_⟩) (by assumption) ?_
    rotate_left
    · (intro wz hSw; obtain ⟨a1, a2, a3, _, _, _⟩ := (OA7.out.kept hSw).three; have a4 := (OA7.out.kept hSw).lt; obtain ⟨b1, b2, b3, _, _, _⟩ := (OB7.out.kept hSw).three; have b4 := (OB7.out.kept hSw).lt; obtain ⟨y1, y2, y3, _, _, _⟩ := (OC7.out.kept hSw).three; have y4 := (OC7.out.kept hSw).lt; obtain ⟨z1, z2, z3, _, _, _⟩ := (OD7.out.kept hSw).three; have z4 := (OD7.out.kept hSw).lt; go_simp; (try with_reducible rfl))
    (try simp only [Act.put, List.setIfInBounds_toArray, List.set_cons_zero, List.set_cons_succ])
    refine wpAnyZ_done (by kernel_rfl) ?_ _
    go_wp2
    go_ret
    exact ⟨rfl, hkw7.trans ku7⟩
end Go.Proofs.Ytjinnkbnllnllaa
