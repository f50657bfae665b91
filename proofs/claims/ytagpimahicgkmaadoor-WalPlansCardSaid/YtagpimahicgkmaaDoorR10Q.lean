/- Walk: mailsackref10.Plan. -/
import Derived.Test.YtagpimahicgkmaaDoorR10H
namespace Go.Proofs.YtagpimahicgkmaaDoor
open Go.RowKit

theorem ROps.form {w0 w : World} {v : Value} {l : List WOp} (h : ROps w0 w v l) : ∃ A c, v = .slice A l.length c := by
  obtain ⟨A9, c9, e9, _⟩ := own_form (V := []) h (by simp)
  exact ⟨A9, c9, e9⟩
theorem ROps.kept {w0 w w' : World} {v : Value} {l : List WOp} (h : ROps w0 w v l) (k : Kept w w') : ROps w0 w' v l := ownsRow_kept h k
theorem entTo_len2 (l : List Wr) (k : Nat) : (entTo l k).length = 2 * k := entTo_len l k

set_option maxRecDepth 100000 in
set_option maxHeartbeats 2000000 in
theorem rplan_any (l : List Wr) (u : Value) (w : World) (hu : WrsAt [] w u l) (hat : ∀ x ∈ l, 0 ≤ x.at_ ∧ x.at_ < 4294967296) (hsz : ∀ x ∈ l, x.data.size ≤ 100) (hl255 : l.length ≤ 100) :
    Calls Tryd.prog 25 #[u] w fun e w' => ∃ r, e = .returned r ∧ ROps w w' r (planOps l) ∧ Kept w w' := by
  have HW := Lib.hid hu
  obtain ⟨WA, wc, rfl, hw1, hw2, hwr⟩ := hu
  unfold maxLen at hw2
  have HWR := Lib.hid hwr
  have HAT := Lib.hid hat
  have HSD := Lib.hid hsz
  have HE0 : Hid (entTo l 0 = []) := rfl
  have HEL0 : Hid (∀ k, k ≤ l.length → (entTo l k).length ≤ 200) := fun k hk => by have := entTo_len l k; omega
  have HE1 : Hid (∀ k (h : k < l.length), entTo l k ++ [⟨false, ⟨1 + 2 * (k : Int), dst l[k].at_.toNat⟩⟩, ⟨false, ⟨2 + 2 * (k : Int), l[k].data⟩⟩] = entTo l (k + 1)) := fun k h => by
    rw [entTo, atW_lt h]
  have HG0 : Hid (entTo l l.length ++ [opF] ++ [⟨false, ⟨0, hdrOf l⟩⟩] ++ [opF] = (entTo l l.length ++ [opF, ⟨false, ⟨0, hdrOf l⟩⟩, opF]) ++ (l.take 0).map wop) := by show _ = _; simp
  have HGS : Hid (∀ k (h : k < l.length), (entTo l l.length ++ [opF, ⟨false, ⟨0, hdrOf l⟩⟩, opF]) ++ (l.take k).map wop ++ [⟨false, l[k]⟩] = (entTo l l.length ++ [opF, ⟨false, ⟨0, hdrOf l⟩⟩, opF]) ++ (l.take (k + 1)).map wop) := fun k h => by
    rw [List.take_succ_eq_append_getElem h, List.map_append, ← List.append_assoc]; rfl
  have HGL : Hid (∀ k, k ≤ l.length → ((entTo l l.length ++ [opF, ⟨false, ⟨0, hdrOf l⟩⟩, opF]) ++ (l.take k).map wop).length ≤ 400) := fun k hk => by
    have := entTo_len l l.length
    simp only [List.length_append, List.length_map, List.length_take, List.length_cons, List.length_nil]; omega
  have HGF : Hid ((entTo l l.length ++ [opF, ⟨false, ⟨0, hdrOf l⟩⟩, opF]) ++ (l.take l.length).map wop ++ [opF] ++ [⟨false, ⟨0, zerosB 64⟩⟩] ++ [opF] = planOps l) := by
    show _ = _
    rw [List.take_length]
    unfold planOps hdrOf
    simp [wop]
  obtain ⟨G, hG⟩ : ∃ G : Nat → List WOp, ∀ k, (entTo l l.length ++ [opF, ⟨false, ⟨0, hdrOf l⟩⟩, opF]) ++ (l.take k).map wop = G k := ⟨_, fun _ => rfl⟩
  simp only [hG] at HG0 HGS HGL HGF
  obtain ⟨E1, hE⟩ : ∃ E : Nat → List WOp, ∀ k, entTo l k = E k := ⟨_, fun _ => rfl⟩
  simp only [hE] at HE0 HEL0 HE1 HG0
  clear hwr hat hsz hG hE
  go_enter Tryd.func25, Tryd.ntmps25
  go_wp2_with fail
  go_loopw [3, 4] (fun tv iv wq => ∃ (k : Nat), k ≤ l.length ∧ iv = .int .i64 k ∧ Hid (ROps w wq tv (E1 k)) ∧ Kept w wq) (fun _ iv _ => l.length - (intOf iv).toNat)
  case atStart => exact ⟨0, Nat.zero_le _, rfl, by rw [HE0.out]; exact ROps.nil _ _, Kept.refl _⟩
  case round =>
    obtain ⟨k, hk, rfl, HO, K⟩ := hrel
    obtain ⟨A0, c0, rfl⟩ := HO.out.form
    by_cases hlt : k < l.length
    · have HES := Lib.hid (HE1.out k hlt)
      have HEL := HEL0.out k hk
      have hrg := HAT.out l[k] (List.getElem_mem hlt)
      obtain ⟨b, o, rfl, hb, _, hcs⟩ := HWR.out (by rw [wrs_length]; omega)
      have HC1 := Lib.hid (hcs _ _ (wrs_at hlt).1)
      have HC2 := Lib.hid (hcs _ _ (wrs_at hlt).2)
      clear hcs
      generalize l[k] = x at *
      obtain ⟨xa, xd⟩ := x
      dsimp only at hrg HC1 HC2 HES
      obtain ⟨xn, rfl⟩ := Int.eq_ofNat_of_zero_le hrg.1
      rw [Int.toNat_natCast] at HES
      have hxn : xn < 4294967296 := by omega
      have i0 : (0 : Int) ≤ (k : Int) := by omega
      have i1 : (k : Int) < (l.length : Int) := by omega
      have q1 : IntKind.i64.wrap (2 * (k : Int)) = 2 * (k : Int) := IntWalk.i64_in _ (by omega)
      have q2 : IntKind.i64.wrap (2 * (k : Int) + 1) = 2 * (k : Int) + 1 := IntWalk.i64_in _ (by omega)
      have q3 : IntKind.i64.wrap (2 * (k : Int) + 2) = 2 * (k : Int) + 2 := IntWalk.i64_in _ (by omega)
      have HIA : Hid ((1 : Int) + 2 * (k : Int) = 2 * (k : Int) + 1) := by show _ = _; omega
      have HIB : Hid ((2 : Int) + 2 * (k : Int) = 2 * (k : Int) + 2) := by show _ = _; omega
      rw [HIA.out, HIB.out] at HES
      clear hrg
      go_upto_region 5 with fail
      have C1 : ∀ W', Kept w W' → W'.cell? ⟨b, o + k * 2, none⟩ = some (.int .i64 (xn : Int)) := fun W' hk => (hk.cell (p := ⟨b, o + k * 2, none⟩) hb).trans HC1.out
      have C2 : ∀ W', Kept w W' → W'.cell? ⟨b, o + k * 2 + 1, none⟩ = some (.string xd) := fun W' hk => (hk.cell (p := ⟨b, o + k * 2 + 1, none⟩) hb).trans HC2.out
      refine wp_region_Z (S := fun W' => Kept w W') (Z := []) (by kernel_rfl) (K.drew) (fun hHeld => ?_)
      have kr := K.drew
      replace HO := Lib.hid (HO.out.kept (Kept.refl _).drew)
      clear K
      generalize wr.drew = w1 at *
      refine wpAnyZ_take (i := 0) (oi := { dst := some 12, op := Op.move (Operand.tmp 3), type := 45, pos := "ref.go:67", after := #[], guard := none }) (v := ?_) rfl (by kernel_rfl) (fun _ _ _ h => h) (Or.inl ⟨by rfl, ?_⟩) (by assumption) ?_
      rotate_left
      · (intro wz hSw; (try dsimp only at hSw); go_simp; (try with_reducible rfl))
      (try simp only [Act.put, List.setIfInBounds_toArray, List.set_cons_zero, List.set_cons_succ])
      refine wpAnyZ_take (i := 1) (oi := { dst := some 13, op := Op.move (Operand.tmp 4), type := 3, pos := "ref.go:67", after := #[], guard := none }) (v := ?_) rfl (by kernel_rfl) (fun _ _ _ h => h) (Or.inl ⟨by rfl, ?_⟩) (by assumption) ?_
      rotate_left
      · (intro wz hSw; (try dsimp only at hSw); go_simp; (try with_reducible rfl))
      (try simp only [Act.put, List.setIfInBounds_toArray, List.set_cons_zero, List.set_cons_succ])
      refine wpAnyZ_take (i := 2) (oi := { dst := some 14, op := Op.binOp BinOp.mul 3 (Operand.const (Value.int IntKind.i64 2)) (Operand.tmp 13) 3, type := 3, pos := "ref.go:67", after := #[{ on := 1, ground := Ground.data }], guard := none }) (v := ?_) rfl (by kernel_rfl) (fun _ _ _ h => h) (Or.inl ⟨by rfl, ?_⟩) (by assumption) ?_
      rotate_left
      · (intro wz hSw; (try dsimp only at hSw); go_simp; (try with_reducible rfl))
      (try simp only [Act.put, List.setIfInBounds_toArray, List.set_cons_zero, List.set_cons_succ])
      refine wpAnyZ_take (i := 3) (oi := { dst := some 15, op := Op.binOp BinOp.add 3 (Operand.tmp 14) (Operand.const (Value.int IntKind.i64 1)) 3, type := 3, pos := "ref.go:67", after := #[{ on := 2, ground := Ground.data }], guard := none }) (v := ?_) rfl (by kernel_rfl) (fun _ _ _ h => h) (Or.inl ⟨by rfl, ?_⟩) (by assumption) ?_
      rotate_left
      · (intro wz hSw; (try dsimp only at hSw); go_simp; (try with_reducible rfl))
      (try simp only [Act.put, List.setIfInBounds_toArray, List.set_cons_zero, List.set_cons_succ])
      refine wpAnyZ_take (i := 4) (oi := { dst := some 16, op := Op.move (Operand.tmp 0), type := 27, pos := "ref.go:67", after := #[], guard := none }) (v := ?_) rfl (by kernel_rfl) (fun _ _ _ h => h) (Or.inl ⟨by rfl, ?_⟩) (by assumption) ?_
      rotate_left
      · (intro wz hSw; (try dsimp only at hSw); go_simp; (try with_reducible rfl))
      (try simp only [Act.put, List.setIfInBounds_toArray, List.set_cons_zero, List.set_cons_succ])
      refine wpAnyZ_take (i := 5) (oi := { dst := some 17, op := Op.move (Operand.tmp 4), type := 3, pos := "ref.go:67", after := #[], guard := none }) (v := ?_) rfl (by kernel_rfl) (fun _ _ _ h => h) (Or.inl ⟨by rfl, ?_⟩) (by assumption) ?_
      rotate_left
      · (intro wz hSw; (try dsimp only at hSw); go_simp; (try with_reducible rfl))
      (try simp only [Act.put, List.setIfInBounds_toArray, List.set_cons_zero, List.set_cons_succ])
      refine wpAnyZ_take (i := 6) (oi := { dst := some 18, op := Op.indexAddr 27 (Operand.tmp 16) (Operand.tmp 17), type := 0, pos := "ref.go:67", after := #[{ on := 4, ground := Ground.data }, { on := 5, ground := Ground.data }], guard := none }) (v := ?_) rfl (by kernel_rfl) (fun _ _ _ h => h) (Or.inl ⟨by rfl, ?_⟩) (by assumption) ?_
      rotate_left
      · (intro wz hSw; (try dsimp only at hSw); go_simp; (try with_reducible rfl))
      (try simp only [Act.put, List.setIfInBounds_toArray, List.set_cons_zero, List.set_cons_succ])
      refine wpAnyZ_take (i := 7) (oi := { dst := some 19, op := Op.fieldAddr 82 (Operand.tmp 18) 0, type := 0, pos := "ref.go:67", after := #[{ on := 6, ground := Ground.data }], guard := none }) (v := ?_) rfl (by kernel_rfl) (fun _ _ _ h => h) (Or.inl ⟨by rfl, ?_⟩) (by assumption) ?_
      rotate_left
      · (intro wz hSw; (try dsimp only at hSw); go_simp; (try with_reducible rfl))
      (try simp only [Act.put, List.setIfInBounds_toArray, List.set_cons_zero, List.set_cons_succ])
      refine wpAnyZ_take (i := 8) (oi := { dst := some 20, op := Op.load 3 (Operand.tmp 19), type := 3, pos := "ref.go:67", after := #[{ on := 7, ground := Ground.data }], guard := none }) (v := ?_) rfl (by kernel_rfl) (fun _ _ _ h => h) (Or.inl ⟨by rfl, ?_⟩) (by assumption) ?_
      rotate_left
      · (intro wz hSw; (try dsimp only at hSw); go_simp; (try with_reducible rfl))
      (try simp only [Act.put, List.setIfInBounds_toArray, List.set_cons_zero, List.set_cons_succ])
      refine wpAnyZ_take (i := 11) (oi := { dst := some 23, op := Op.move (Operand.tmp 4), type := 3, pos := "ref.go:67", after := #[], guard := none }) (v := ?_) rfl (by kernel_rfl) (fun _ _ _ h => h) (Or.inl ⟨by rfl, ?_⟩) (by assumption) ?_
      rotate_left
      · (intro wz hSw; (try dsimp only at hSw); go_simp; (try with_reducible rfl))
      (try simp only [Act.put, List.setIfInBounds_toArray, List.set_cons_zero, List.set_cons_succ])
      refine wpAnyZ_take (i := 12) (oi := { dst := some 24, op := Op.binOp BinOp.mul 3 (Operand.const (Value.int IntKind.i64 2)) (Operand.tmp 23) 3, type := 3, pos := "ref.go:67", after := #[{ on := 11, ground := Ground.data }], guard := none }) (v := ?_) rfl (by kernel_rfl) (fun _ _ _ h => h) (Or.inl ⟨by rfl, ?_⟩) (by assumption) ?_
      rotate_left
      · (intro wz hSw; (try dsimp only at hSw); go_simp; (try with_reducible rfl))
      (try simp only [Act.put, List.setIfInBounds_toArray, List.set_cons_zero, List.set_cons_succ])
      refine wpAnyZ_take (i := 13) (oi := { dst := some 25, op := Op.binOp BinOp.add 3 (Operand.tmp 24) (Operand.const (Value.int IntKind.i64 2)) 3, type := 3, pos := "ref.go:67", after := #[{ on := 12, ground := Ground.data }], guard := none }) (v := ?_) rfl (by kernel_rfl) (fun _ _ _ h => h) (Or.inl ⟨by rfl, ?_⟩) (by assumption) ?_
      rotate_left
      · (intro wz hSw; (try dsimp only at hSw); go_simp; (try with_reducible rfl))
      (try simp only [Act.put, List.setIfInBounds_toArray, List.set_cons_zero, List.set_cons_succ])
      refine wpAnyZ_take (i := 14) (oi := { dst := some 26, op := Op.move (Operand.tmp 0), type := 27, pos := "ref.go:67", after := #[], guard := none }) (v := ?_) rfl (by kernel_rfl) (fun _ _ _ h => h) (Or.inl ⟨by rfl, ?_⟩) (by assumption) ?_
      rotate_left
      · (intro wz hSw; (try dsimp only at hSw); go_simp; (try with_reducible rfl))
      (try simp only [Act.put, List.setIfInBounds_toArray, List.set_cons_zero, List.set_cons_succ])
      refine wpAnyZ_take (i := 15) (oi := { dst := some 27, op := Op.move (Operand.tmp 4), type := 3, pos := "ref.go:67", after := #[], guard := none }) (v := ?_) rfl (by kernel_rfl) (fun _ _ _ h => h) (Or.inl ⟨by rfl, ?_⟩) (by assumption) ?_
      rotate_left
      · (intro wz hSw; (try dsimp only at hSw); go_simp; (try with_reducible rfl))
      (try simp only [Act.put, List.setIfInBounds_toArray, List.set_cons_zero, List.set_cons_succ])
      refine wpAnyZ_take (i := 16) (oi := { dst := some 28, op := Op.indexAddr 27 (Operand.tmp 26) (Operand.tmp 27), type := 0, pos := "ref.go:67", after := #[{ on := 14, ground := Ground.data }, { on := 15, ground := Ground.data }], guard := none }) (v := ?_) rfl (by kernel_rfl) (fun _ _ _ h => h) (Or.inl ⟨by rfl, ?_⟩) (by assumption) ?_
      rotate_left
      · (intro wz hSw; (try dsimp only at hSw); go_simp; (try with_reducible rfl))
      (try simp only [Act.put, List.setIfInBounds_toArray, List.set_cons_zero, List.set_cons_succ])
      refine wpAnyZ_take (i := 17) (oi := { dst := some 29, op := Op.fieldAddr 82 (Operand.tmp 28) 1, type := 0, pos := "ref.go:67", after := #[{ on := 16, ground := Ground.data }], guard := none }) (v := ?_) rfl (by kernel_rfl) (fun _ _ _ h => h) (Or.inl ⟨by rfl, ?_⟩) (by assumption) ?_
      rotate_left
      · (intro wz hSw; (try dsimp only at hSw); go_simp; (try with_reducible rfl))
      (try simp only [Act.put, List.setIfInBounds_toArray, List.set_cons_zero, List.set_cons_succ])
      refine wpAnyZ_take (i := 18) (oi := { dst := some 30, op := Op.load 9 (Operand.tmp 29), type := 9, pos := "ref.go:67", after := #[{ on := 17, ground := Ground.data }], guard := none }) (v := ?_) rfl (by kernel_rfl) (fun _ _ _ h => h) (Or.inl ⟨by rfl, ?_⟩) (by assumption) ?_
      rotate_left
      · (intro wz hSw; (try dsimp only at hSw); go_simp; (try with_reducible rfl))
      (try simp only [Act.put, List.setIfInBounds_toArray, List.set_cons_zero, List.set_cons_succ])
      refine wpAnyZ_ready (rs := [9]) (by kernel_rfl) (by simp) ?_
      refine AllReadyZ.cons (o := { dst := some 21, op := Op.call { callee := Callee.value (Operand.func 54), args := #[Operand.tmp 20], argTypes := #[3] }, type := 9, pos := "ref.go:67", after := #[{ on := 8, ground := Ground.data }], guard := none }) rfl (fun KK hKK => ?_) AllReadyZ.nil
      go_simp
      refine (rwhere_any xn hxn w1).mono ?_
      rintro e w2 ⟨rfl, hk⟩
      clear hHeld
      replace kr := kr.trans hk
      replace HO := Lib.hid (HO.out.kept hk)
      clear hk
      go_simp
      refine hKK.out _ _ ?_ (fun hHeld => ?_)
      · exact kr
      clear hKK KK
      (try simp only [Act.put, List.setIfInBounds_toArray, List.set_cons_zero, List.set_cons_succ])
      refine wpAnyZ_ready (rs := [10]) (by kernel_rfl) (by simp) ?_
      refine AllReadyZ.cons (o := { dst := some 22, op := Op.call { callee := Callee.value (Operand.func 56), args := #[Operand.tmp 12, Operand.tmp 15, Operand.tmp 21], argTypes := #[45, 3, 9] }, type := 45, pos := "ref.go:67", after := #[{ on := 0, ground := Ground.data }, { on := 3, ground := Ground.data }, { on := 9, ground := Ground.data }, { on := 9, ground := Ground.chain }], guard := none }) rfl (fun KK hKK => ?_) AllReadyZ.nil
      go_simp
      refine (rwrite_any w (E1 k) (2 * (k : Int) + 1) (dst xn) _ w2 kr HO.out (by omega)).mono ?_
      rintro e w3 ⟨v1, rfl, hr, hk⟩
      clear hHeld
      clear kr
      have kr := hk
      clear HO
      generalize hl1 : E1 k ++ [⟨false, ⟨2 * (k : Int) + 1, dst xn⟩⟩] = L1 at *
      have HL1 := Lib.hid hl1
      have hb1 : L1.length ≤ 201 := by rw [← hl1, List.length_append]; simp only [List.length_cons, List.length_nil]; omega
      clear hl1
      have HO := Lib.hid hr
      clear hr
      obtain ⟨A1, c1, rfl⟩ := HO.out.form
      clear hk
      go_simp
      refine hKK.out _ _ ?_ (fun hHeld => ?_)
      · exact kr
      clear hKK KK
      (try simp only [Act.put, List.setIfInBounds_toArray, List.set_cons_zero, List.set_cons_succ])
      refine wpAnyZ_ready (rs := [19]) (by kernel_rfl) (by simp) ?_
      refine AllReadyZ.cons (o := { dst := some 31, op := Op.call { callee := Callee.value (Operand.func 56), args := #[Operand.tmp 22, Operand.tmp 25, Operand.tmp 30], argTypes := #[45, 3, 9] }, type := 45, pos := "ref.go:67", after := #[{ on := 10, ground := Ground.data }, { on := 13, ground := Ground.data }, { on := 18, ground := Ground.data }, { on := 10, ground := Ground.chain }], guard := none }) rfl (fun KK hKK => ?_) AllReadyZ.nil
      go_simp
      refine (rwrite_any w L1 (2 * (k : Int) + 2) xd _ w3 kr HO.out (by omega)).mono ?_
      rintro e w4 ⟨v2, rfl, hr, hk⟩
      clear hHeld
      clear kr
      have kr := hk
      clear HO
      have HLE : Hid (L1 ++ [⟨false, ⟨2 * (k : Int) + 2, xd⟩⟩] = E1 (k + 1)) := by show _ = _; rw [← HL1.out, ← HES.out, List.append_assoc]; rfl
      rw [HLE.out] at hr
      have HO9 := Lib.hid hr
      clear hr
      obtain ⟨A2, c2, rfl⟩ := HO9.out.form
      clear hk
      go_simp
      refine hKK.out _ _ ?_ (fun hHeld => ?_)
      · exact kr
      clear hKK KK
      (try simp only [Act.put, List.setIfInBounds_toArray, List.set_cons_zero, List.set_cons_succ])
      refine wpAnyZ_take (i := 20) (oi := { dst := some 3, op := Op.assign (Operand.tmp 31), type := 45, pos := "ref.go:67", after := #[{ on := 19, ground := Ground.data }, { on := 19, ground := Ground.chain }, { on := 0, ground := Ground.phase }, { on := 1, ground := Ground.phase }, { on := 2, ground := Ground.phase }, { on := 3, ground := Ground.phase }, { on := 4, ground := Ground.phase }, { on := 5, ground := Ground.phase }, { on := 6, ground := Ground.phase }, { on := 7, ground := Ground.phase }, { on := 8, ground := Ground.phase }, { on := 9, ground := Ground.phase }, { on := 10, ground := Ground.phase }, { on := 11, ground := Ground.phase }, { on := 12, ground := Ground.phase }, { on := 13, ground := Ground.phase }, { on := 14, ground := Ground.phase }, { on := 15, ground := Ground.phase }, { on := 16, ground := Ground.phase }, { on := 17, ground := Ground.phase }, { on := 18, ground := Ground.phase }, { on := 19, ground := Ground.phase }], guard := none }) (v := ?_) rfl (by kernel_rfl) (fun _ _ _ h => h) (Or.inl ⟨by rfl, ?_⟩) (by assumption) ?_
      rotate_left
      · (intro wz hSw; (try dsimp only at hSw); go_simp; (try with_reducible rfl))
      (try simp only [Act.put, List.setIfInBounds_toArray, List.set_cons_zero, List.set_cons_succ])
      refine wpAnyZ_done (by kernel_rfl) ?_ _
      clear C1 C2 hHeld
      have K := kr
      clear kr
      go_wp2
      go_roundw
      case rel => exact ⟨k + 1, by omega, by go_num, HO9, K⟩
      case measure => simp [intOf]; omega
    · obtain rfl : k = l.length := by omega
      have HEL := HEL0.out l.length (Nat.le_refl _)
      go_wp2_with fail
      refine (rflush_any w (E1 l.length) _ wr K HO.out (by omega)).mono ?_
      rintro e w1 ⟨v3, rfl, hr, hk⟩
      clear K
      have K := hk
      clear hk HO
      generalize hl3 : E1 l.length ++ [opF] = L3 at *
      have HL3 := Lib.hid hl3
      have hb3 : L3.length ≤ 201 := by rw [← hl3, List.length_append]; simp only [List.length_cons, List.length_nil]; omega
      clear hl3
      have HO := Lib.hid hr
      clear hr
      obtain ⟨A3, c3, rfl⟩ := HO.out.form
      go_wp2_with fail
      refine (rheader_any l _ w1 (HW.out.go K (Ext.refl _ _)) HAT.out HSD.out (by omega)).mono ?_
      rintro e w2 ⟨rfl, hk⟩
      replace HO := Lib.hid (HO.out.kept hk)
      replace K := K.trans hk
      clear hk
      generalize hdrOf l = hd at *
      go_wp2_with fail
      refine (rwrite_any w L3 0 hd _ w2 K HO.out (by omega)).mono ?_
      rintro e w3 ⟨v4, rfl, hr, hk⟩
      clear K
      have K := hk
      clear hk HO
      generalize hl4 : L3 ++ [⟨false, ⟨0, hd⟩⟩] = L4 at *
      have HL4 := Lib.hid hl4
      have hb4 : L4.length ≤ 202 := by rw [← hl4, List.length_append]; simp only [List.length_cons, List.length_nil]; omega
      clear hl4
      have HO := Lib.hid hr
      clear hr
      obtain ⟨A4, c4, rfl⟩ := HO.out.form
      go_wp2_with fail
      refine (rflush_any w L4 _ w3 K HO.out (by omega)).mono ?_
      rintro e w4 ⟨v5, rfl, hr, hk⟩
      clear K
      have K := hk
      clear hk HO
      rw [HG0.out] at hr
      have HO := Lib.hid hr
      clear hr
      obtain ⟨A5, c5, rfl⟩ := HO.out.form
      have hG0 := HGL.out 0 (Nat.zero_le _)
      go_wp2_with fail
      go_loopw [3, 5] (fun tv iv wq => ∃ (k : Nat), k ≤ l.length ∧ iv = .int .i64 k ∧ Hid (ROps w wq tv (G k)) ∧ Kept w wq) (fun _ iv _ => l.length - (intOf iv).toNat)
      case atStart => exact ⟨0, Nat.zero_le _, rfl, HO, K⟩
      case round =>
        clear HO K HEL
        obtain ⟨k, hk, rfl, HO, K⟩ := hrel
        obtain ⟨A0, c0, rfl⟩ := HO.out.form
        by_cases hlt : k < l.length
        · have HES := Lib.hid (HGS.out k hlt)
          have HEL := HGL.out k hk
          have hrg := HAT.out l[k] (List.getElem_mem hlt)
          obtain ⟨b, o, rfl, hb, _, hcs⟩ := HWR.out (by rw [wrs_length]; omega)
          have HC1 := Lib.hid (hcs _ _ (wrs_at hlt).1)
          have HC2 := Lib.hid (hcs _ _ (wrs_at hlt).2)
          clear hcs
          generalize l[k] = x at *
          obtain ⟨xa, xd⟩ := x
          dsimp only at HC1 HC2 HES
          have i0 : (0 : Int) ≤ (k : Int) := by omega
          have i1 : (k : Int) < (l.length : Int) := by omega
          clear hrg
          go_upto_region 10 with fail
          have C1 : ∀ W', Kept w W' → W'.cell? ⟨b, o + k * 2, none⟩ = some (.int .i64 xa) := fun W' hk => (hk.cell (p := ⟨b, o + k * 2, none⟩) hb).trans HC1.out
          have C2 : ∀ W', Kept w W' → W'.cell? ⟨b, o + k * 2 + 1, none⟩ = some (.string xd) := fun W' hk => (hk.cell (p := ⟨b, o + k * 2 + 1, none⟩) hb).trans HC2.out
          refine wp_region_Z (S := fun W' => Kept w W') (Z := []) (by kernel_rfl) (K.drew) (fun hHeld => ?_)
          have kr := K.drew
          replace HO := Lib.hid (HO.out.kept (Kept.refl _).drew)
          clear K
          generalize wr.drew = w5 at *
          refine wpAnyZ_take (i := 0) (oi := { dst := some 44, op := Op.move (Operand.tmp 3), type := 45, pos := "ref.go:71", after := #[], guard := none }) (v := ?_) rfl (by kernel_rfl) (fun _ _ _ h => h) (Or.inl ⟨by rfl, ?_⟩) (by assumption) ?_
          rotate_left
          · (intro wz hSw; (try dsimp only at hSw); go_simp; (try with_reducible rfl))
          (try simp only [Act.put, List.setIfInBounds_toArray, List.set_cons_zero, List.set_cons_succ])
          refine wpAnyZ_take (i := 1) (oi := { dst := some 45, op := Op.move (Operand.tmp 0), type := 27, pos := "ref.go:71", after := #[], guard := none }) (v := ?_) rfl (by kernel_rfl) (fun _ _ _ h => h) (Or.inl ⟨by rfl, ?_⟩) (by assumption) ?_
          rotate_left
          · (intro wz hSw; (try dsimp only at hSw); go_simp; (try with_reducible rfl))
          (try simp only [Act.put, List.setIfInBounds_toArray, List.set_cons_zero, List.set_cons_succ])
          refine wpAnyZ_take (i := 2) (oi := { dst := some 46, op := Op.move (Operand.tmp 5), type := 3, pos := "ref.go:71", after := #[], guard := none }) (v := ?_) rfl (by kernel_rfl) (fun _ _ _ h => h) (Or.inl ⟨by rfl, ?_⟩) (by assumption) ?_
          rotate_left
          · (intro wz hSw; (try dsimp only at hSw); go_simp; (try with_reducible rfl))
          (try simp only [Act.put, List.setIfInBounds_toArray, List.set_cons_zero, List.set_cons_succ])
          refine wpAnyZ_take (i := 3) (oi := { dst := some 47, op := Op.indexAddr 27 (Operand.tmp 45) (Operand.tmp 46), type := 0, pos := "ref.go:71", after := #[{ on := 1, ground := Ground.data }, { on := 2, ground := Ground.data }], guard := none }) (v := ?_) rfl (by kernel_rfl) (fun _ _ _ h => h) (Or.inl ⟨by rfl, ?_⟩) (by assumption) ?_
          rotate_left
          · (intro wz hSw; (try dsimp only at hSw); go_simp; (try with_reducible rfl))
          (try simp only [Act.put, List.setIfInBounds_toArray, List.set_cons_zero, List.set_cons_succ])
          refine wpAnyZ_take (i := 4) (oi := { dst := some 48, op := Op.fieldAddr 82 (Operand.tmp 47) 0, type := 0, pos := "ref.go:71", after := #[{ on := 3, ground := Ground.data }], guard := none }) (v := ?_) rfl (by kernel_rfl) (fun _ _ _ h => h) (Or.inl ⟨by rfl, ?_⟩) (by assumption) ?_
          rotate_left
          · (intro wz hSw; (try dsimp only at hSw); go_simp; (try with_reducible rfl))
          (try simp only [Act.put, List.setIfInBounds_toArray, List.set_cons_zero, List.set_cons_succ])
          refine wpAnyZ_take (i := 5) (oi := { dst := some 49, op := Op.load 3 (Operand.tmp 48), type := 3, pos := "ref.go:71", after := #[{ on := 4, ground := Ground.data }], guard := none }) (v := ?_) rfl (by kernel_rfl) (fun _ _ _ h => h) (Or.inl ⟨by rfl, ?_⟩) (by assumption) ?_
          rotate_left
          · (intro wz hSw; (try dsimp only at hSw); go_simp; (try with_reducible rfl))
          (try simp only [Act.put, List.setIfInBounds_toArray, List.set_cons_zero, List.set_cons_succ])
          refine wpAnyZ_take (i := 6) (oi := { dst := some 50, op := Op.move (Operand.tmp 0), type := 27, pos := "ref.go:71", after := #[], guard := none }) (v := ?_) rfl (by kernel_rfl) (fun _ _ _ h => h) (Or.inl ⟨by rfl, ?_⟩) (by assumption) ?_
          rotate_left
          · (intro wz hSw; (try dsimp only at hSw); go_simp; (try with_reducible rfl))
          (try simp only [Act.put, List.setIfInBounds_toArray, List.set_cons_zero, List.set_cons_succ])
          refine wpAnyZ_take (i := 7) (oi := { dst := some 51, op := Op.move (Operand.tmp 5), type := 3, pos := "ref.go:71", after := #[], guard := none }) (v := ?_) rfl (by kernel_rfl) (fun _ _ _ h => h) (Or.inl ⟨by rfl, ?_⟩) (by assumption) ?_
          rotate_left
          · (intro wz hSw; (try dsimp only at hSw); go_simp; (try with_reducible rfl))
          (try simp only [Act.put, List.setIfInBounds_toArray, List.set_cons_zero, List.set_cons_succ])
          refine wpAnyZ_take (i := 8) (oi := { dst := some 52, op := Op.indexAddr 27 (Operand.tmp 50) (Operand.tmp 51), type := 0, pos := "ref.go:71", after := #[{ on := 6, ground := Ground.data }, { on := 7, ground := Ground.data }], guard := none }) (v := ?_) rfl (by kernel_rfl) (fun _ _ _ h => h) (Or.inl ⟨by rfl, ?_⟩) (by assumption) ?_
          rotate_left
          · (intro wz hSw; (try dsimp only at hSw); go_simp; (try with_reducible rfl))
          (try simp only [Act.put, List.setIfInBounds_toArray, List.set_cons_zero, List.set_cons_succ])
          refine wpAnyZ_take (i := 9) (oi := { dst := some 53, op := Op.fieldAddr 82 (Operand.tmp 52) 1, type := 0, pos := "ref.go:71", after := #[{ on := 8, ground := Ground.data }], guard := none }) (v := ?_) rfl (by kernel_rfl) (fun _ _ _ h => h) (Or.inl ⟨by rfl, ?_⟩) (by assumption) ?_
          rotate_left
          · (intro wz hSw; (try dsimp only at hSw); go_simp; (try with_reducible rfl))
          (try simp only [Act.put, List.setIfInBounds_toArray, List.set_cons_zero, List.set_cons_succ])
          refine wpAnyZ_take (i := 10) (oi := { dst := some 54, op := Op.load 9 (Operand.tmp 53), type := 9, pos := "ref.go:71", after := #[{ on := 9, ground := Ground.data }], guard := none }) (v := ?_) rfl (by kernel_rfl) (fun _ _ _ h => h) (Or.inl ⟨by rfl, ?_⟩) (by assumption) ?_
          rotate_left
          · (intro wz hSw; (try dsimp only at hSw); go_simp; (try with_reducible rfl))
          (try simp only [Act.put, List.setIfInBounds_toArray, List.set_cons_zero, List.set_cons_succ])
          refine wpAnyZ_ready (rs := [11]) (by kernel_rfl) (by simp) ?_
          refine AllReadyZ.cons (o := { dst := some 55, op := Op.call { callee := Callee.value (Operand.func 56), args := #[Operand.tmp 44, Operand.tmp 49, Operand.tmp 54], argTypes := #[45, 3, 9] }, type := 45, pos := "ref.go:71", after := #[{ on := 0, ground := Ground.data }, { on := 5, ground := Ground.data }, { on := 10, ground := Ground.data }], guard := none }) rfl (fun KK hKK => ?_) AllReadyZ.nil
          go_simp
          refine (rwrite_any w (G k) xa xd _ w5 kr HO.out (by omega)).mono ?_
          rintro e w6 ⟨v2, rfl, hr2, hk⟩
          clear hHeld
          clear kr
          have kr := hk
          clear HO
          rw [HES.out] at hr2
          have HO9 := Lib.hid hr2
          clear hr2
          obtain ⟨A2, c2, rfl⟩ := HO9.out.form
          clear hk
          go_simp
          refine hKK.out _ _ ?_ (fun hHeld => ?_)
          · exact kr
          clear hKK KK
          (try simp only [Act.put, List.setIfInBounds_toArray, List.set_cons_zero, List.set_cons_succ])
          refine wpAnyZ_take (i := 12) (oi := { dst := some 3, op := Op.assign (Operand.tmp 55), type := 45, pos := "ref.go:71", after := #[{ on := 11, ground := Ground.data }, { on := 11, ground := Ground.chain }, { on := 0, ground := Ground.phase }, { on := 1, ground := Ground.phase }, { on := 2, ground := Ground.phase }, { on := 3, ground := Ground.phase }, { on := 4, ground := Ground.phase }, { on := 5, ground := Ground.phase }, { on := 6, ground := Ground.phase }, { on := 7, ground := Ground.phase }, { on := 8, ground := Ground.phase }, { on := 9, ground := Ground.phase }, { on := 10, ground := Ground.phase }, { on := 11, ground := Ground.phase }], guard := none }) (v := ?_) rfl (by kernel_rfl) (fun _ _ _ h => h) (Or.inl ⟨by rfl, ?_⟩) (by assumption) ?_
          rotate_left
          · (intro wz hSw; (try dsimp only at hSw); go_simp; (try with_reducible rfl))
          (try simp only [Act.put, List.setIfInBounds_toArray, List.set_cons_zero, List.set_cons_succ])
          refine wpAnyZ_done (by kernel_rfl) ?_ _
          clear C1 C2 hHeld
          have K := kr
          clear kr
          go_wp2
          go_roundw
          case rel => exact ⟨k + 1, by omega, by go_num, HO9, K⟩
          case measure => simp [intOf]; omega
        · obtain rfl : k = l.length := by omega
          have HEL := HGL.out l.length (Nat.le_refl _)
          go_wp2_with fail
          refine (rflush_any w (G l.length) _ wr K HO.out (by omega)).mono ?_
          rintro e w5 ⟨v6, rfl, hr, hk⟩
          clear K
          have K := hk
          clear hk HO
          generalize hl6 : G l.length ++ [opF] = L6 at *
          have HL6 := Lib.hid hl6
          have hb6 : L6.length ≤ 401 := by rw [← hl6, List.length_append]; simp only [List.length_cons, List.length_nil]; omega
          clear hl6
          have HO := Lib.hid hr
          clear hr
          obtain ⟨A6, c6, rfl⟩ := HO.out.form
          go_wp2_with fail
          refine (rsector_any w5 [] _ w5 (Kept.refl _) (World.ownsRow_nil _ _ _ _) (by simp)).mono ?_
          rintro e w6 ⟨rfl, hk⟩
          replace HO := Lib.hid (HO.out.kept hk)
          replace K := K.trans hk
          clear hk
          rw [pad_nil]
          go_wp2_with fail
          refine (rwrite_any w L6 0 (zerosB 64) _ w6 K HO.out (by omega)).mono ?_
          rintro e w7 ⟨v7, rfl, hr, hk⟩
          clear K
          have K := hk
          clear hk HO
          generalize hl7 : L6 ++ [⟨false, ⟨0, zerosB 64⟩⟩] = L7 at *
          have HL7 := Lib.hid hl7
          have hb7 : L7.length ≤ 402 := by rw [← hl7, List.length_append]; simp only [List.length_cons, List.length_nil]; omega
          clear hl7
          have HO := Lib.hid hr
          clear hr
          obtain ⟨A7, c7, rfl⟩ := HO.out.form
          go_wp2_with fail
          refine (rflush_any w L7 _ w7 K HO.out (by omega)).mono ?_
          rintro e w8 ⟨v8, rfl, hr, hk⟩
          clear K
          have K := hk
          clear hk HO
          rw [HGF.out] at hr
          have HO := Lib.hid hr
          clear hr
          obtain ⟨A8, c8, rfl⟩ := HO.out.form
          go_wp2
          go_ret
          exact ⟨_, rfl, HO.out, K⟩
end Go.Proofs.YtagpimahicgkmaaDoor
