/- Walk: store.decode. -/
import Derived.Test.YtagpimahicgkmaaDoorMf
import Derived.Test.YtagpimahicgkmaaDoorMa
namespace Go.Proofs.YtagpimahicgkmaaDoor
open Go.RowKit

theorem or_size (a b : Nat) (ha : a < 256) (hb : b < 256) : bits .or .i64 (a : Int) ((b : Int) * 256) = ((a + 256 * b : Nat) : Int) := by
  have e0 : (b : Int) * 256 = ((b * 256 : Nat) : Int) := by omega
  have hx : a ||| b * 256 < 2 ^ 62 := Nat.or_lt_two_pow (by omega) (by omega)
  have h1 : (BitVec.ofInt 64 (a : Int)).toNat = a := by
    rw [BitVec.ofInt_natCast, BitVec.toNat_ofNat]; exact Nat.mod_eq_of_lt (by omega)
  have h2 : (BitVec.ofInt 64 ((b * 256 : Nat) : Int)).toNat = b * 256 := by
    rw [BitVec.ofInt_natCast, BitVec.toNat_ofNat]; exact Nat.mod_eq_of_lt (by omega)
  have h3 : a ||| b * 256 = a + 256 * b := by
    have := Nat.shiftLeft_add_eq_or_of_lt (i := 8) (b := a) (by omega) b
    rw [Nat.shiftLeft_eq] at this
    rw [Nat.or_comm, ← this]; omega
  rw [e0]
  show IntKind.i64.wrap ((BitVec.ofInt 64 (a : Int) ||| BitVec.ofInt 64 ((b * 256 : Nat) : Int)).toNat : Int) = _
  rw [BitVec.toNat_or, h1, h2, h3]
  exact IntWalk.i64_in _ (by omega)
theorem byte_nat {s : ByteArray} {k : Nat} (h : k < s.size) : s[k].toNat = (byteAt s k).toNat := by rw [byteAt_lt h]

set_option maxRecDepth 100000 in
set_option maxHeartbeats 4000000 in
theorem dec_any (s : ByteArray) (w : World) (hs : s.size = 64) : Calls Tryd.prog 85 #[.string s] w fun e w' => e = .returned (.agg (slotC (decS s)).toArray) ∧ Kept w w' := by
  have hw1 : wrap64 (s[1].toNat : Int) = (s[1].toNat : Int) := IntWalk.wrap64_in _ (by have := s[1].toNat_lt; omega)
  have hw2 : wrap64 (s[2].toNat : Int) = (s[2].toNat : Int) := IntWalk.wrap64_in _ (by have := s[2].toNat_lt; omega)
  have hw3 : wrap64 (s[3].toNat : Int) = (s[3].toNat : Int) := IntWalk.wrap64_in _ (by have := s[3].toNat_lt; omega)
  have hw4 : wrap64 (s[4].toNat : Int) = (s[4].toNat : Int) := IntWalk.wrap64_in _ (by have := s[4].toNat_lt; omega)
  have hw5 : wrap64 (s[5].toNat : Int) = (s[5].toNat : Int) := IntWalk.wrap64_in _ (by have := s[5].toNat_lt; omega)
  have hv1 : IntKind.i64.wrap (s[1].toNat : Int) = (s[1].toNat : Int) := IntWalk.i64_in _ (by have := s[1].toNat_lt; omega)
  have hv2 : IntKind.i64.wrap (s[2].toNat : Int) = (s[2].toNat : Int) := IntWalk.i64_in _ (by have := s[2].toNat_lt; omega)
  have hv3 : IntKind.i64.wrap (s[3].toNat : Int) = (s[3].toNat : Int) := IntWalk.i64_in _ (by have := s[3].toNat_lt; omega)
  have hv4 : IntKind.i64.wrap (s[4].toNat : Int) = (s[4].toNat : Int) := IntWalk.i64_in _ (by have := s[4].toNat_lt; omega)
  have hv5 : IntKind.i64.wrap (s[5].toNat : Int) = (s[5].toNat : Int) := IntWalk.i64_in _ (by have := s[5].toNat_lt; omega)
  have hw4' : IntKind.i64.wrap ((s[4].toNat : Int) * 256) = (s[4].toNat : Int) * 256 := IntWalk.i64_in _ (by have := s[4].toNat_lt; omega)
  have hor := or_size s[3].toNat s[4].toNat s[3].toNat_lt s[4].toNat_lt
  obtain ⟨sz, hsz⟩ : ∃ sz : Nat, s[3].toNat + 256 * s[4].toNat = sz := ⟨_, rfl⟩
  rw [hsz] at hor
  have HDB : Hid (decBad s = (!(s[0].toNat == 1) || decide (1 < s[1].toNat) || decide (blocksN s[1].toNat ≤ s[2].toNat) || decide (capN s[1].toNat < sz) || decide (s[5].toNat < 1) || decide (24 < s[5].toNat))) := by
    show _ = _
    unfold decBad decN
    rw [← byte_nat (show 0 < s.size by omega), ← byte_nat (show 1 < s.size by omega), ← byte_nat (show 2 < s.size by omega), ← byte_nat (show 3 < s.size by omega), ← byte_nat (show 4 < s.size by omega), ← byte_nat (show 5 < s.size by omega), hsz]
  have HRW : Hid (decRaw s = ⟨true, s[1].toNat, s[2].toNat, sz, s.extract 6 (6 + s[5].toNat)⟩) := by
    show _ = _
    unfold decRaw decN
    rw [← byte_nat (show 1 < s.size by omega), ← byte_nat (show 2 < s.size by omega), ← byte_nat (show 3 < s.size by omega), ← byte_nat (show 4 < s.size by omega), ← byte_nat (show 5 < s.size by omega), hsz]
  have HSZ : Hid (sz ≤ 65535) := by have := s[3].toNat_lt; have := s[4].toNat_lt; show _ ≤ _; omega
  clear hsz
  go_enter Tryd.func85, Tryd.ntmps85
  go_wp2_with fail
  have OR := Lib.hid (Own.newAt w w.heap.size 121 [.bool false, .int .i64 0, .int .i64 0, .int .i64 0, .string ⟨#[]⟩] (by simp))
  have K := ((Kept.refl w).alloc (.cells #[.bool false, .int .i64 0, .int .i64 0, .int .i64 0, .string ⟨#[]⟩] 121))
  generalize (w.alloc (.cells #[.bool false, .int .i64 0, .int .i64 0, .int .i64 0, .string ⟨#[]⟩] 121)) = w1 at *
  have cR0 := OR.out.cell? 0
  have fR0 := OR.out.frozen 0
  have cR1 := OR.out.cell? 1
  have fR1 := OR.out.frozen 1
  have cR2 := OR.out.cell? 2
  have fR2 := OR.out.frozen 2
  have cR3 := OR.out.cell? 3
  have fR3 := OR.out.frozen 3
  have cR4 := OR.out.cell? 4
  have fR4 := OR.out.frozen 4
  simp only [List.getElem?_cons_zero, List.getElem?_cons_succ] at cR0 cR1 cR2 cR3 cR4
  go_upto_region 1 with fail
  clear cR0 cR1 cR2 cR3 cR4 fR0 fR1 fR2 fR3 fR4
  have CR0 : ∀ W', Kept w1 W' → W'.cell? ⟨w.heap.size, 0, none⟩ = some (.bool false) := fun W' hk => (OR.out.kept hk).cell? 0
  have CR1 : ∀ W', Kept w1 W' → W'.cell? ⟨w.heap.size, 1, none⟩ = some (.int .i64 0) := fun W' hk => (OR.out.kept hk).cell? 1
  have CR2 : ∀ W', Kept w1 W' → W'.cell? ⟨w.heap.size, 2, none⟩ = some (.int .i64 0) := fun W' hk => (OR.out.kept hk).cell? 2
  have CR3 : ∀ W', Kept w1 W' → W'.cell? ⟨w.heap.size, 3, none⟩ = some (.int .i64 0) := fun W' hk => (OR.out.kept hk).cell? 3
  have CR4 : ∀ W', Kept w1 W' → W'.cell? ⟨w.heap.size, 4, none⟩ = some (.string ⟨#[]⟩) := fun W' hk => (OR.out.kept hk).cell? 4
  refine wp_region_Z (S := fun W' => Kept w1 W') (Z := [16]) (by kernel_rfl) ((Kept.refl _).drew) (fun hHeld => ?_)
  have kr := (Kept.refl w1).drew
  have Kr := K
  have zr := K.size
  have ORr := OR
  replace OR := Lib.hid (ORr.out.kept kr)
  replace K := Kr.trans kr
  generalize w1.drew = w2 at *
  refine wpAnyZ_take (i := 0) (oi := { dst := some 5, op := Op.move (Operand.tmp 0), type := 9, pos := "store.go:205", after := #[], guard := none }) (v := ?_) rfl (by kernel_rfl) (fun _ _ _ h => h) (Or.inl ⟨by rfl, ?_⟩) (by assumption) ?_
  rotate_left
  · (intro wz hSw; (try dsimp only at hSw); go_simp; (try with_reducible rfl))
  (try simp only [Act.put, List.setIfInBounds_toArray, List.set_cons_zero, List.set_cons_succ])
  refine wpAnyZ_take (i := 1) (oi := { dst := some 6, op := Op.index 9 (Operand.tmp 5) (Operand.const (Value.int IntKind.i64 1)), type := 5, pos := "store.go:205", after := #[{ on := 0, ground := Ground.data }], guard := none }) (v := ?_) rfl (by kernel_rfl) (fun _ _ _ h => h) (Or.inl ⟨by rfl, ?_⟩) (by assumption) ?_
  rotate_left
  · (intro wz hSw; (try dsimp only at hSw); go_simp; (try with_reducible rfl))
  (try simp only [Act.put, List.setIfInBounds_toArray, List.set_cons_zero, List.set_cons_succ])
  refine wpAnyZ_take (i := 2) (oi := { dst := some 7, op := Op.convert 5 3 (Operand.tmp 6), type := 3, pos := "store.go:205", after := #[{ on := 1, ground := Ground.data }], guard := none }) (v := ?_) rfl (by kernel_rfl) (fun _ _ _ h => h) (Or.inl ⟨by rfl, ?_⟩) (by assumption) ?_
  rotate_left
  · (intro wz hSw; (try dsimp only at hSw); go_simp; (try with_reducible rfl))
  (try simp only [Act.put, List.setIfInBounds_toArray, List.set_cons_zero, List.set_cons_succ])
  refine wpAnyZ_take (i := 3) (oi := { dst := some 8, op := Op.move (Operand.tmp 0), type := 9, pos := "store.go:205", after := #[], guard := none }) (v := ?_) rfl (by kernel_rfl) (fun _ _ _ h => h) (Or.inl ⟨by rfl, ?_⟩) (by assumption) ?_
  rotate_left
  · (intro wz hSw; (try dsimp only at hSw); go_simp; (try with_reducible rfl))
  (try simp only [Act.put, List.setIfInBounds_toArray, List.set_cons_zero, List.set_cons_succ])
  refine wpAnyZ_take (i := 4) (oi := { dst := some 9, op := Op.index 9 (Operand.tmp 8) (Operand.const (Value.int IntKind.i64 2)), type := 5, pos := "store.go:205", after := #[{ on := 3, ground := Ground.data }], guard := none }) (v := ?_) rfl (by kernel_rfl) (fun _ _ _ h => h) (Or.inl ⟨by rfl, ?_⟩) (by assumption) ?_
  rotate_left
  · (intro wz hSw; (try dsimp only at hSw); go_simp; (try with_reducible rfl))
  (try simp only [Act.put, List.setIfInBounds_toArray, List.set_cons_zero, List.set_cons_succ])
  refine wpAnyZ_take (i := 5) (oi := { dst := some 10, op := Op.convert 5 3 (Operand.tmp 9), type := 3, pos := "store.go:205", after := #[{ on := 4, ground := Ground.data }], guard := none }) (v := ?_) rfl (by kernel_rfl) (fun _ _ _ h => h) (Or.inl ⟨by rfl, ?_⟩) (by assumption) ?_
  rotate_left
  · (intro wz hSw; (try dsimp only at hSw); go_simp; (try with_reducible rfl))
  (try simp only [Act.put, List.setIfInBounds_toArray, List.set_cons_zero, List.set_cons_succ])
  refine wpAnyZ_take (i := 6) (oi := { dst := some 11, op := Op.move (Operand.tmp 0), type := 9, pos := "store.go:205", after := #[], guard := none }) (v := ?_) rfl (by kernel_rfl) (fun _ _ _ h => h) (Or.inl ⟨by rfl, ?_⟩) (by assumption) ?_
  rotate_left
  · (intro wz hSw; (try dsimp only at hSw); go_simp; (try with_reducible rfl))
  (try simp only [Act.put, List.setIfInBounds_toArray, List.set_cons_zero, List.set_cons_succ])
  refine wpAnyZ_take (i := 7) (oi := { dst := some 12, op := Op.index 9 (Operand.tmp 11) (Operand.const (Value.int IntKind.i64 3)), type := 5, pos := "store.go:205", after := #[{ on := 6, ground := Ground.data }], guard := none }) (v := ?_) rfl (by kernel_rfl) (fun _ _ _ h => h) (Or.inl ⟨by rfl, ?_⟩) (by assumption) ?_
  rotate_left
  · (intro wz hSw; (try dsimp only at hSw); go_simp; (try with_reducible rfl))
  (try simp only [Act.put, List.setIfInBounds_toArray, List.set_cons_zero, List.set_cons_succ])
  refine wpAnyZ_take (i := 8) (oi := { dst := some 13, op := Op.convert 5 3 (Operand.tmp 12), type := 3, pos := "store.go:205", after := #[{ on := 7, ground := Ground.data }], guard := none }) (v := ?_) rfl (by kernel_rfl) (fun _ _ _ h => h) (Or.inl ⟨by rfl, ?_⟩) (by assumption) ?_
  rotate_left
  · (intro wz hSw; (try dsimp only at hSw); go_simp; (try with_reducible rfl))
  (try simp only [Act.put, List.setIfInBounds_toArray, List.set_cons_zero, List.set_cons_succ])
  refine wpAnyZ_take (i := 9) (oi := { dst := some 14, op := Op.move (Operand.tmp 0), type := 9, pos := "store.go:205", after := #[], guard := none }) (v := ?_) rfl (by kernel_rfl) (fun _ _ _ h => h) (Or.inl ⟨by rfl, ?_⟩) (by assumption) ?_
  rotate_left
  · (intro wz hSw; (try dsimp only at hSw); go_simp; (try with_reducible rfl))
  (try simp only [Act.put, List.setIfInBounds_toArray, List.set_cons_zero, List.set_cons_succ])
  refine wpAnyZ_take (i := 10) (oi := { dst := some 15, op := Op.index 9 (Operand.tmp 14) (Operand.const (Value.int IntKind.i64 4)), type := 5, pos := "store.go:205", after := #[{ on := 9, ground := Ground.data }], guard := none }) (v := ?_) rfl (by kernel_rfl) (fun _ _ _ h => h) (Or.inl ⟨by rfl, ?_⟩) (by assumption) ?_
  rotate_left
  · (intro wz hSw; (try dsimp only at hSw); go_simp; (try with_reducible rfl))
  (try simp only [Act.put, List.setIfInBounds_toArray, List.set_cons_zero, List.set_cons_succ])
  refine wpAnyZ_take (i := 11) (oi := { dst := some 16, op := Op.convert 5 3 (Operand.tmp 15), type := 3, pos := "store.go:205", after := #[{ on := 10, ground := Ground.data }], guard := none }) (v := ?_) rfl (by kernel_rfl) (fun _ _ _ h => h) (Or.inl ⟨by rfl, ?_⟩) (by assumption) ?_
  rotate_left
  · (intro wz hSw; (try dsimp only at hSw); go_simp; (try with_reducible rfl))
  (try simp only [Act.put, List.setIfInBounds_toArray, List.set_cons_zero, List.set_cons_succ])
  refine wpAnyZ_take (i := 12) (oi := { dst := some 17, op := Op.binOp BinOp.shl 3 (Operand.tmp 16) (Operand.const (Value.int IntKind.u64 8)) 138, type := 3, pos := "store.go:205", after := #[{ on := 11, ground := Ground.data }], guard := none }) (v := ?_) rfl (by kernel_rfl) (fun _ _ _ h => h) (Or.inl ⟨by rfl, ?_⟩) (by assumption) ?_
  rotate_left
  · (intro wz hSw; (try dsimp only at hSw); go_simp; (try with_reducible rfl))
  (try simp only [Act.put, List.setIfInBounds_toArray, List.set_cons_zero, List.set_cons_succ])
  refine wpAnyZ_take (i := 13) (oi := { dst := some 18, op := Op.binOp BinOp.or 3 (Operand.tmp 13) (Operand.tmp 17) 3, type := 3, pos := "store.go:205", after := #[{ on := 8, ground := Ground.data }, { on := 12, ground := Ground.data }], guard := none }) (v := ?_) rfl (by kernel_rfl) (fun _ _ _ h => h) (Or.inl ⟨by rfl, ?_⟩) (by assumption) ?_
  rotate_left
  · (intro wz hSw; (try dsimp only at hSw); go_simp; (try with_reducible rfl))
  (try simp only [Act.put, List.setIfInBounds_toArray, List.set_cons_zero, List.set_cons_succ])
  refine wpAnyZ_take (i := 14) (oi := { dst := some 19, op := Op.build 121 #[(0, Operand.const (Value.bool true)), (1, Operand.tmp 7), (2, Operand.tmp 10), (3, Operand.tmp 18)], type := 121, pos := "store.go:205", after := #[{ on := 2, ground := Ground.data }, { on := 5, ground := Ground.data }, { on := 13, ground := Ground.data }], guard := none }) (v := ?_) rfl (by kernel_rfl) (fun _ _ _ h => h) (Or.inl ⟨by rfl, ?_⟩) (by assumption) ?_
  rotate_left
  · (intro wz hSw; (try dsimp only at hSw); go_simp; (try with_reducible rfl))
  (try simp only [Act.put, List.setIfInBounds_toArray, List.set_cons_zero, List.set_cons_succ])
  refine wpAnyZ_ready (rs := [15]) (by kernel_rfl) (by simp) ?_
  refine AllReadyZ.cons (o := { dst := some 3, op := Op.alloc 121, type := 0, pos := "store.go:205", after := #[], guard := none }) rfl (fun KK hKK => ?_) AllReadyZ.nil
  go_simp
  replace kr := kr.alloc (.cells #[.bool false, .int .i64 0, .int .i64 0, .int .i64 0, .string ⟨#[]⟩] 121)
  clear hHeld
  have OT := Lib.hid (Own.new w2 121 [.bool false, .int .i64 0, .int .i64 0, .int .i64 0, .string ⟨#[]⟩])
  have zTb : w.heap.size < w2.heap.size := OR.out.lt
  replace OR := Lib.hid (ORr.out.kept kr)
  replace K := Kr.trans kr
  generalize (w2.alloc (.cells #[.bool false, .int .i64 0, .int .i64 0, .int .i64 0, .string ⟨#[]⟩] 121)) = w3 at *
  generalize w2.heap.size = bT at *
  refine hKK.out _ _ ?_ (fun hHeld => ?_)
  · exact kr
  clear hKK KK
  (try simp only [Act.put, List.setIfInBounds_toArray, List.set_cons_zero, List.set_cons_succ])
  refine wpAnyZ_ready (rs := [16]) (by kernel_rfl) (by simp) ?_
  refine AllReadyZ.late (o := { dst := none, op := Op.store 121 (Operand.tmp 3) (Operand.tmp 19), type := 0, pos := "store.go:205", after := #[{ on := 15, ground := Ground.data }, { on := 14, ground := Ground.data }, { on := 0, ground := Ground.phase }, { on := 1, ground := Ground.phase }, { on := 2, ground := Ground.phase }, { on := 3, ground := Ground.phase }, { on := 4, ground := Ground.phase }, { on := 5, ground := Ground.phase }, { on := 6, ground := Ground.phase }, { on := 7, ground := Ground.phase }, { on := 8, ground := Ground.phase }, { on := 9, ground := Ground.phase }, { on := 10, ground := Ground.phase }, { on := 11, ground := Ground.phase }, { on := 12, ground := Ground.phase }, { on := 13, ground := Ground.phase }, { on := 14, ground := Ground.phase }, { on := 15, ground := Ground.phase }], guard := none }) rfl (by simp) (fun KK hKK => ?_) AllReadyZ.nil
  have cT0 := OT.out.cell? 0
  have fT0 := OT.out.frozen 0
  have cT1 := OT.out.cell? 1
  have fT1 := OT.out.frozen 1
  have cT2 := OT.out.cell? 2
  have fT2 := OT.out.frozen 2
  have cT3 := OT.out.cell? 3
  have fT3 := OT.out.frozen 3
  have cT4 := OT.out.cell? 4
  have fT4 := OT.out.frozen 4
  simp only [List.getElem?_cons_zero, List.getElem?_cons_succ] at cT0 cT1 cT2 cT3 cT4
  go_simp
  clear cT0 cT1 cT2 cT3 cT4 fT0 fT1 fT2 fT3 fT4
  replace OR : Hid (Own (((((w3.setCell ⟨bT, 0, none⟩ (.bool true)).setCell ⟨bT, 1, none⟩ (.int .i64 (s[1].toNat : Int))).setCell ⟨bT, 2, none⟩ (.int .i64 (s[2].toNat : Int))).setCell ⟨bT, 3, none⟩ (.int .i64 (sz : Int))).setCell ⟨bT, 4, none⟩ (.string ⟨#[]⟩)) w.heap.size 121 [.bool false, .int .i64 0, .int .i64 0, .int .i64 0, .string ⟨#[]⟩]) := Lib.hid (((((OR.out.far (p := ⟨bT, 0, none⟩) (by first | omega | (simp; omega) | simp) (.bool true)).far (p := ⟨bT, 1, none⟩) (by first | omega | (simp; omega) | simp) (.int .i64 (s[1].toNat : Int))).far (p := ⟨bT, 2, none⟩) (by first | omega | (simp; omega) | simp) (.int .i64 (s[2].toNat : Int))).far (p := ⟨bT, 3, none⟩) (by first | omega | (simp; omega) | simp) (.int .i64 (sz : Int))).far (p := ⟨bT, 4, none⟩) (by first | omega | (simp; omega) | simp) (.string ⟨#[]⟩))
  replace OT : Hid (Own (((((w3.setCell ⟨bT, 0, none⟩ (.bool true)).setCell ⟨bT, 1, none⟩ (.int .i64 (s[1].toNat : Int))).setCell ⟨bT, 2, none⟩ (.int .i64 (s[2].toNat : Int))).setCell ⟨bT, 3, none⟩ (.int .i64 (sz : Int))).setCell ⟨bT, 4, none⟩ (.string ⟨#[]⟩)) bT 121 [.bool true, .int .i64 (s[1].toNat : Int), .int .i64 (s[2].toNat : Int), .int .i64 (sz : Int), .string ⟨#[]⟩]) := Lib.hid (((((OT.out.set_ 0 (.bool true)).set_ 1 (.int .i64 (s[1].toNat : Int))).set_ 2 (.int .i64 (s[2].toNat : Int))).set_ 3 (.int .i64 (sz : Int))).set_ 4 (.string ⟨#[]⟩))
  replace K := (((((K.setCell (p := ⟨bT, 0, none⟩) (by first | exact Nat.le_refl _ | (simp only []; omega) | simp) (.bool true)).setCell (p := ⟨bT, 1, none⟩) (by first | exact Nat.le_refl _ | (simp only []; omega) | simp) (.int .i64 (s[1].toNat : Int))).setCell (p := ⟨bT, 2, none⟩) (by first | exact Nat.le_refl _ | (simp only []; omega) | simp) (.int .i64 (s[2].toNat : Int))).setCell (p := ⟨bT, 3, none⟩) (by first | exact Nat.le_refl _ | (simp only []; omega) | simp) (.int .i64 (sz : Int))).setCell (p := ⟨bT, 4, none⟩) (by first | exact Nat.le_refl _ | (simp only []; omega) | simp) (.string ⟨#[]⟩))
  generalize (((((w3.setCell ⟨bT, 0, none⟩ (.bool true)).setCell ⟨bT, 1, none⟩ (.int .i64 (s[1].toNat : Int))).setCell ⟨bT, 2, none⟩ (.int .i64 (s[2].toNat : Int))).setCell ⟨bT, 3, none⟩ (.int .i64 (sz : Int))).setCell ⟨bT, 4, none⟩ (.string ⟨#[]⟩)) = w4 at *
  refine hKK.out _ _ ?_
  clear hKK KK
  (try simp only [Act.put, List.setIfInBounds_toArray, List.set_cons_zero, List.set_cons_succ])
  refine wpAnyZ_done (by kernel_rfl) ?_ _
  clear CR0 CR1 CR2 CR3 CR4 ORr Kr zr hHeld kr
  clear hw1 hw2 hw3 hw4 hw4' hv1 hv2 hv3 hv4 hv5 hor
  go_upto_region 3 with fail
  clear hw5
  generalize hg1 : s[1].toNat = b1 at *
  generalize hg2 : s[2].toNat = b2 at *
  generalize hg5 : s[5].toNat = b5 at *
  have HBL := Lib.hid (show b1 < 256 ∧ b2 < 256 ∧ b5 < 256 by rw [← hg1, ← hg2, ← hg5]; exact ⟨s[1].toNat_lt, s[2].toNat_lt, s[5].toNat_lt⟩)
  clear hg1 hg2 hg5
  have hw5b : wrap64 (b5 : Int) = (b5 : Int) := IntWalk.wrap64_in _ (by have := HBL.out; omega)
  rw [hw5b]
  clear hw5b
  have HBK : ∀ w', Calls Tryd.prog 72 #[.int .i64 (b1 : Int)] w' fun e w'' => e = .returned (.int .i64 (blocksN b1 : Nat)) ∧ w'' = w' := fun w' => (blocks_any b1 w').mono fun _ _ h => ⟨h.1, h.2.symm⟩
  have HBK := Lib.hid HBK
  have HCK : Hid (∀ w', Calls Tryd.prog 92 #[.int .i64 (b1 : Int)] w' fun e w'' => e = .returned (.int .i64 (capN b1 : Nat)) ∧ w'' = w') := fun w' => (cap_any b1 w').mono fun _ _ h => ⟨h.1, h.2.symm⟩
  by_cases h0 : s[0].toNat ≠ 1
  · skip
    have t0 : ((s[0].toNat : Int) != 1) = true := bne_t (by omega)
    have HBAD : Hid (decBad s = true) := by show _ = _; rw [HDB.out]; simp only [Bool.or_eq_true, decide_eq_true_eq, Bool.not_eq_true', beq_eq_false_iff_ne]; omega
    have cR0 := OR.out.cell? 0
    have fR0 := OR.out.frozen 0
    have cR1 := OR.out.cell? 1
    have fR1 := OR.out.frozen 1
    have cR2 := OR.out.cell? 2
    have fR2 := OR.out.frozen 2
    have cR3 := OR.out.cell? 3
    have fR3 := OR.out.frozen 3
    have cR4 := OR.out.cell? 4
    have fR4 := OR.out.frozen 4
    simp only [List.getElem?_cons_zero, List.getElem?_cons_succ] at cR0 cR1 cR2 cR3 cR4
    have cT0 := OT.out.cell? 0
    have fT0 := OT.out.frozen 0
    have cT1 := OT.out.cell? 1
    have fT1 := OT.out.frozen 1
    have cT2 := OT.out.cell? 2
    have fT2 := OT.out.frozen 2
    have cT3 := OT.out.cell? 3
    have fT3 := OT.out.frozen 3
    have cT4 := OT.out.cell? 4
    have fT4 := OT.out.frozen 4
    simp only [List.getElem?_cons_zero, List.getElem?_cons_succ] at cT0 cT1 cT2 cT3 cT4
    go_quiet ((first | (go_at_call 72; exact Calls.quiet_of_same (HBK.out _)) | (go_at_call 92; exact Calls.quiet_of_same (HCK.out _))))
    clear cR0 cR1 cR2 cR3 cR4 fR0 fR1 fR2 fR3 fR4 cT0 cT1 cT2 cT3 cT4 fT0 fT1 fT2 fT3 fT4
    replace OR := Lib.hid (OR.out.drewN nq)
    replace OT := Lib.hid (OT.out.drewN nq)
    replace K := K.drewN nq
    generalize (w4.drewN nq) = w5 at *
    have HE : Hid (decS s = slot0) := by show _ = _; unfold decS; rw [HBAD.out]; rfl
    have cR0 := OR.out.cell? 0
    have fR0 := OR.out.frozen 0
    have cR1 := OR.out.cell? 1
    have fR1 := OR.out.frozen 1
    have cR2 := OR.out.cell? 2
    have fR2 := OR.out.frozen 2
    have cR3 := OR.out.cell? 3
    have fR3 := OR.out.frozen 3
    have cR4 := OR.out.cell? 4
    have fR4 := OR.out.frozen 4
    simp only [List.getElem?_cons_zero, List.getElem?_cons_succ] at cR0 cR1 cR2 cR3 cR4
    have cT0 := OT.out.cell? 0
    have fT0 := OT.out.frozen 0
    have cT1 := OT.out.cell? 1
    have fT1 := OT.out.frozen 1
    have cT2 := OT.out.cell? 2
    have fT2 := OT.out.frozen 2
    have cT3 := OT.out.cell? 3
    have fT3 := OT.out.frozen 3
    have cT4 := OT.out.cell? 4
    have fT4 := OT.out.frozen 4
    simp only [List.getElem?_cons_zero, List.getElem?_cons_succ] at cT0 cT1 cT2 cT3 cT4
    go_wp2
    clear cR0 cR1 cR2 cR3 cR4 fR0 fR1 fR2 fR3 fR4 cT0 cT1 cT2 cT3 cT4 fT0 fT1 fT2 fT3 fT4
    replace OR : Hid (Own (((((w5.setCell ⟨w.heap.size, 0, none⟩ (.bool false)).setCell ⟨w.heap.size, 1, none⟩ (.int .i64 0)).setCell ⟨w.heap.size, 2, none⟩ (.int .i64 0)).setCell ⟨w.heap.size, 3, none⟩ (.int .i64 0)).setCell ⟨w.heap.size, 4, none⟩ (.string ⟨#[]⟩)) w.heap.size 121 [.bool false, .int .i64 0, .int .i64 0, .int .i64 0, .string ⟨#[]⟩]) := Lib.hid (((((OR.out.set_ 0 (.bool false)).set_ 1 (.int .i64 0)).set_ 2 (.int .i64 0)).set_ 3 (.int .i64 0)).set_ 4 (.string ⟨#[]⟩))
    replace OT : Hid (Own (((((w5.setCell ⟨w.heap.size, 0, none⟩ (.bool false)).setCell ⟨w.heap.size, 1, none⟩ (.int .i64 0)).setCell ⟨w.heap.size, 2, none⟩ (.int .i64 0)).setCell ⟨w.heap.size, 3, none⟩ (.int .i64 0)).setCell ⟨w.heap.size, 4, none⟩ (.string ⟨#[]⟩)) bT 121 [.bool true, .int .i64 (b1 : Int), .int .i64 (b2 : Int), .int .i64 (sz : Int), .string ⟨#[]⟩]) := Lib.hid (((((OT.out.far (p := ⟨w.heap.size, 0, none⟩) (by first | omega | (simp; omega) | simp) (.bool false)).far (p := ⟨w.heap.size, 1, none⟩) (by first | omega | (simp; omega) | simp) (.int .i64 0)).far (p := ⟨w.heap.size, 2, none⟩) (by first | omega | (simp; omega) | simp) (.int .i64 0)).far (p := ⟨w.heap.size, 3, none⟩) (by first | omega | (simp; omega) | simp) (.int .i64 0)).far (p := ⟨w.heap.size, 4, none⟩) (by first | omega | (simp; omega) | simp) (.string ⟨#[]⟩))
    replace K := (((((K.setCell (p := ⟨w.heap.size, 0, none⟩) (by first | exact Nat.le_refl _ | (simp only []; omega) | simp) (.bool false)).setCell (p := ⟨w.heap.size, 1, none⟩) (by first | exact Nat.le_refl _ | (simp only []; omega) | simp) (.int .i64 0)).setCell (p := ⟨w.heap.size, 2, none⟩) (by first | exact Nat.le_refl _ | (simp only []; omega) | simp) (.int .i64 0)).setCell (p := ⟨w.heap.size, 3, none⟩) (by first | exact Nat.le_refl _ | (simp only []; omega) | simp) (.int .i64 0)).setCell (p := ⟨w.heap.size, 4, none⟩) (by first | exact Nat.le_refl _ | (simp only []; omega) | simp) (.string ⟨#[]⟩))
    generalize (((((w5.setCell ⟨w.heap.size, 0, none⟩ (.bool false)).setCell ⟨w.heap.size, 1, none⟩ (.int .i64 0)).setCell ⟨w.heap.size, 2, none⟩ (.int .i64 0)).setCell ⟨w.heap.size, 3, none⟩ (.int .i64 0)).setCell ⟨w.heap.size, 4, none⟩ (.string ⟨#[]⟩)) = w6 at *
    refine bodyPost_ret (v := .agg (slotC slot0).toArray) ?_ rfl ?_
    · exact results_cell_row Tryd.results85 _ _ w.heap.size 121 (slotC slot0).toArray (0, 0) _ (by rfl) OR.out Tryd.underlying121 rfl (by kernel_rfl)
    · exact ⟨by rw [HE.out], K⟩
  have t0 : ((s[0].toNat : Int) != 1) = false := bne_f (by omega)
  by_cases h1 : 1 < b1
  · skip
    have t1 : (1 : Int) < (b1 : Int) := by omega
    have HBAD : Hid (decBad s = true) := by show _ = _; rw [HDB.out]; simp only [Bool.or_eq_true, decide_eq_true_eq, Bool.not_eq_true', beq_eq_false_iff_ne]; omega
    have cR0 := OR.out.cell? 0
    have fR0 := OR.out.frozen 0
    have cR1 := OR.out.cell? 1
    have fR1 := OR.out.frozen 1
    have cR2 := OR.out.cell? 2
    have fR2 := OR.out.frozen 2
    have cR3 := OR.out.cell? 3
    have fR3 := OR.out.frozen 3
    have cR4 := OR.out.cell? 4
    have fR4 := OR.out.frozen 4
    simp only [List.getElem?_cons_zero, List.getElem?_cons_succ] at cR0 cR1 cR2 cR3 cR4
    have cT0 := OT.out.cell? 0
    have fT0 := OT.out.frozen 0
    have cT1 := OT.out.cell? 1
    have fT1 := OT.out.frozen 1
    have cT2 := OT.out.cell? 2
    have fT2 := OT.out.frozen 2
    have cT3 := OT.out.cell? 3
    have fT3 := OT.out.frozen 3
    have cT4 := OT.out.cell? 4
    have fT4 := OT.out.frozen 4
    simp only [List.getElem?_cons_zero, List.getElem?_cons_succ] at cT0 cT1 cT2 cT3 cT4
    go_quiet ((first | (go_at_call 72; exact Calls.quiet_of_same (HBK.out _)) | (go_at_call 92; exact Calls.quiet_of_same (HCK.out _))))
    clear cR0 cR1 cR2 cR3 cR4 fR0 fR1 fR2 fR3 fR4 cT0 cT1 cT2 cT3 cT4 fT0 fT1 fT2 fT3 fT4
    replace OR := Lib.hid (OR.out.drewN nq)
    replace OT := Lib.hid (OT.out.drewN nq)
    replace K := K.drewN nq
    generalize (w4.drewN nq) = w5 at *
    have HE : Hid (decS s = slot0) := by show _ = _; unfold decS; rw [HBAD.out]; rfl
    have cR0 := OR.out.cell? 0
    have fR0 := OR.out.frozen 0
    have cR1 := OR.out.cell? 1
    have fR1 := OR.out.frozen 1
    have cR2 := OR.out.cell? 2
    have fR2 := OR.out.frozen 2
    have cR3 := OR.out.cell? 3
    have fR3 := OR.out.frozen 3
    have cR4 := OR.out.cell? 4
    have fR4 := OR.out.frozen 4
    simp only [List.getElem?_cons_zero, List.getElem?_cons_succ] at cR0 cR1 cR2 cR3 cR4
    have cT0 := OT.out.cell? 0
    have fT0 := OT.out.frozen 0
    have cT1 := OT.out.cell? 1
    have fT1 := OT.out.frozen 1
    have cT2 := OT.out.cell? 2
    have fT2 := OT.out.frozen 2
    have cT3 := OT.out.cell? 3
    have fT3 := OT.out.frozen 3
    have cT4 := OT.out.cell? 4
    have fT4 := OT.out.frozen 4
    simp only [List.getElem?_cons_zero, List.getElem?_cons_succ] at cT0 cT1 cT2 cT3 cT4
    go_wp2
    clear cR0 cR1 cR2 cR3 cR4 fR0 fR1 fR2 fR3 fR4 cT0 cT1 cT2 cT3 cT4 fT0 fT1 fT2 fT3 fT4
    replace OR : Hid (Own (((((w5.setCell ⟨w.heap.size, 0, none⟩ (.bool false)).setCell ⟨w.heap.size, 1, none⟩ (.int .i64 0)).setCell ⟨w.heap.size, 2, none⟩ (.int .i64 0)).setCell ⟨w.heap.size, 3, none⟩ (.int .i64 0)).setCell ⟨w.heap.size, 4, none⟩ (.string ⟨#[]⟩)) w.heap.size 121 [.bool false, .int .i64 0, .int .i64 0, .int .i64 0, .string ⟨#[]⟩]) := Lib.hid (((((OR.out.set_ 0 (.bool false)).set_ 1 (.int .i64 0)).set_ 2 (.int .i64 0)).set_ 3 (.int .i64 0)).set_ 4 (.string ⟨#[]⟩))
    replace OT : Hid (Own (((((w5.setCell ⟨w.heap.size, 0, none⟩ (.bool false)).setCell ⟨w.heap.size, 1, none⟩ (.int .i64 0)).setCell ⟨w.heap.size, 2, none⟩ (.int .i64 0)).setCell ⟨w.heap.size, 3, none⟩ (.int .i64 0)).setCell ⟨w.heap.size, 4, none⟩ (.string ⟨#[]⟩)) bT 121 [.bool true, .int .i64 (b1 : Int), .int .i64 (b2 : Int), .int .i64 (sz : Int), .string ⟨#[]⟩]) := Lib.hid (((((OT.out.far (p := ⟨w.heap.size, 0, none⟩) (by first | omega | (simp; omega) | simp) (.bool false)).far (p := ⟨w.heap.size, 1, none⟩) (by first | omega | (simp; omega) | simp) (.int .i64 0)).far (p := ⟨w.heap.size, 2, none⟩) (by first | omega | (simp; omega) | simp) (.int .i64 0)).far (p := ⟨w.heap.size, 3, none⟩) (by first | omega | (simp; omega) | simp) (.int .i64 0)).far (p := ⟨w.heap.size, 4, none⟩) (by first | omega | (simp; omega) | simp) (.string ⟨#[]⟩))
    replace K := (((((K.setCell (p := ⟨w.heap.size, 0, none⟩) (by first | exact Nat.le_refl _ | (simp only []; omega) | simp) (.bool false)).setCell (p := ⟨w.heap.size, 1, none⟩) (by first | exact Nat.le_refl _ | (simp only []; omega) | simp) (.int .i64 0)).setCell (p := ⟨w.heap.size, 2, none⟩) (by first | exact Nat.le_refl _ | (simp only []; omega) | simp) (.int .i64 0)).setCell (p := ⟨w.heap.size, 3, none⟩) (by first | exact Nat.le_refl _ | (simp only []; omega) | simp) (.int .i64 0)).setCell (p := ⟨w.heap.size, 4, none⟩) (by first | exact Nat.le_refl _ | (simp only []; omega) | simp) (.string ⟨#[]⟩))
    generalize (((((w5.setCell ⟨w.heap.size, 0, none⟩ (.bool false)).setCell ⟨w.heap.size, 1, none⟩ (.int .i64 0)).setCell ⟨w.heap.size, 2, none⟩ (.int .i64 0)).setCell ⟨w.heap.size, 3, none⟩ (.int .i64 0)).setCell ⟨w.heap.size, 4, none⟩ (.string ⟨#[]⟩)) = w6 at *
    refine bodyPost_ret (v := .agg (slotC slot0).toArray) ?_ rfl ?_
    · exact results_cell_row Tryd.results85 _ _ w.heap.size 121 (slotC slot0).toArray (0, 0) _ (by rfl) OR.out Tryd.underlying121 rfl (by kernel_rfl)
    · exact ⟨by rw [HE.out], K⟩
  have t1 : ¬ (1 : Int) < (b1 : Int) := by omega
  by_cases h2 : blocksN b1 ≤ b2
  · skip
    have t2 : (b2 : Int) ≥ (blocksN b1 : Int) := by omega
    have HBAD : Hid (decBad s = true) := by show _ = _; rw [HDB.out]; simp only [Bool.or_eq_true, decide_eq_true_eq, Bool.not_eq_true', beq_eq_false_iff_ne]; omega
    have cR0 := OR.out.cell? 0
    have fR0 := OR.out.frozen 0
    have cR1 := OR.out.cell? 1
    have fR1 := OR.out.frozen 1
    have cR2 := OR.out.cell? 2
    have fR2 := OR.out.frozen 2
    have cR3 := OR.out.cell? 3
    have fR3 := OR.out.frozen 3
    have cR4 := OR.out.cell? 4
    have fR4 := OR.out.frozen 4
    simp only [List.getElem?_cons_zero, List.getElem?_cons_succ] at cR0 cR1 cR2 cR3 cR4
    have cT0 := OT.out.cell? 0
    have fT0 := OT.out.frozen 0
    have cT1 := OT.out.cell? 1
    have fT1 := OT.out.frozen 1
    have cT2 := OT.out.cell? 2
    have fT2 := OT.out.frozen 2
    have cT3 := OT.out.cell? 3
    have fT3 := OT.out.frozen 3
    have cT4 := OT.out.cell? 4
    have fT4 := OT.out.frozen 4
    simp only [List.getElem?_cons_zero, List.getElem?_cons_succ] at cT0 cT1 cT2 cT3 cT4
    go_quiet ((first | (go_at_call 72; exact Calls.quiet_of_same (HBK.out _)) | (go_at_call 92; exact Calls.quiet_of_same (HCK.out _))))
    clear cR0 cR1 cR2 cR3 cR4 fR0 fR1 fR2 fR3 fR4 cT0 cT1 cT2 cT3 cT4 fT0 fT1 fT2 fT3 fT4
    replace OR := Lib.hid (OR.out.drewN nq)
    replace OT := Lib.hid (OT.out.drewN nq)
    replace K := K.drewN nq
    generalize (w4.drewN nq) = w5 at *
    have HE : Hid (decS s = slot0) := by show _ = _; unfold decS; rw [HBAD.out]; rfl
    have cR0 := OR.out.cell? 0
    have fR0 := OR.out.frozen 0
    have cR1 := OR.out.cell? 1
    have fR1 := OR.out.frozen 1
    have cR2 := OR.out.cell? 2
    have fR2 := OR.out.frozen 2
    have cR3 := OR.out.cell? 3
    have fR3 := OR.out.frozen 3
    have cR4 := OR.out.cell? 4
    have fR4 := OR.out.frozen 4
    simp only [List.getElem?_cons_zero, List.getElem?_cons_succ] at cR0 cR1 cR2 cR3 cR4
    have cT0 := OT.out.cell? 0
    have fT0 := OT.out.frozen 0
    have cT1 := OT.out.cell? 1
    have fT1 := OT.out.frozen 1
    have cT2 := OT.out.cell? 2
    have fT2 := OT.out.frozen 2
    have cT3 := OT.out.cell? 3
    have fT3 := OT.out.frozen 3
    have cT4 := OT.out.cell? 4
    have fT4 := OT.out.frozen 4
    simp only [List.getElem?_cons_zero, List.getElem?_cons_succ] at cT0 cT1 cT2 cT3 cT4
    go_wp2
    clear cR0 cR1 cR2 cR3 cR4 fR0 fR1 fR2 fR3 fR4 cT0 cT1 cT2 cT3 cT4 fT0 fT1 fT2 fT3 fT4
    replace OR : Hid (Own (((((w5.setCell ⟨w.heap.size, 0, none⟩ (.bool false)).setCell ⟨w.heap.size, 1, none⟩ (.int .i64 0)).setCell ⟨w.heap.size, 2, none⟩ (.int .i64 0)).setCell ⟨w.heap.size, 3, none⟩ (.int .i64 0)).setCell ⟨w.heap.size, 4, none⟩ (.string ⟨#[]⟩)) w.heap.size 121 [.bool false, .int .i64 0, .int .i64 0, .int .i64 0, .string ⟨#[]⟩]) := Lib.hid (((((OR.out.set_ 0 (.bool false)).set_ 1 (.int .i64 0)).set_ 2 (.int .i64 0)).set_ 3 (.int .i64 0)).set_ 4 (.string ⟨#[]⟩))
    replace OT : Hid (Own (((((w5.setCell ⟨w.heap.size, 0, none⟩ (.bool false)).setCell ⟨w.heap.size, 1, none⟩ (.int .i64 0)).setCell ⟨w.heap.size, 2, none⟩ (.int .i64 0)).setCell ⟨w.heap.size, 3, none⟩ (.int .i64 0)).setCell ⟨w.heap.size, 4, none⟩ (.string ⟨#[]⟩)) bT 121 [.bool true, .int .i64 (b1 : Int), .int .i64 (b2 : Int), .int .i64 (sz : Int), .string ⟨#[]⟩]) := Lib.hid (((((OT.out.far (p := ⟨w.heap.size, 0, none⟩) (by first | omega | (simp; omega) | simp) (.bool false)).far (p := ⟨w.heap.size, 1, none⟩) (by first | omega | (simp; omega) | simp) (.int .i64 0)).far (p := ⟨w.heap.size, 2, none⟩) (by first | omega | (simp; omega) | simp) (.int .i64 0)).far (p := ⟨w.heap.size, 3, none⟩) (by first | omega | (simp; omega) | simp) (.int .i64 0)).far (p := ⟨w.heap.size, 4, none⟩) (by first | omega | (simp; omega) | simp) (.string ⟨#[]⟩))
    replace K := (((((K.setCell (p := ⟨w.heap.size, 0, none⟩) (by first | exact Nat.le_refl _ | (simp only []; omega) | simp) (.bool false)).setCell (p := ⟨w.heap.size, 1, none⟩) (by first | exact Nat.le_refl _ | (simp only []; omega) | simp) (.int .i64 0)).setCell (p := ⟨w.heap.size, 2, none⟩) (by first | exact Nat.le_refl _ | (simp only []; omega) | simp) (.int .i64 0)).setCell (p := ⟨w.heap.size, 3, none⟩) (by first | exact Nat.le_refl _ | (simp only []; omega) | simp) (.int .i64 0)).setCell (p := ⟨w.heap.size, 4, none⟩) (by first | exact Nat.le_refl _ | (simp only []; omega) | simp) (.string ⟨#[]⟩))
    generalize (((((w5.setCell ⟨w.heap.size, 0, none⟩ (.bool false)).setCell ⟨w.heap.size, 1, none⟩ (.int .i64 0)).setCell ⟨w.heap.size, 2, none⟩ (.int .i64 0)).setCell ⟨w.heap.size, 3, none⟩ (.int .i64 0)).setCell ⟨w.heap.size, 4, none⟩ (.string ⟨#[]⟩)) = w6 at *
    refine bodyPost_ret (v := .agg (slotC slot0).toArray) ?_ rfl ?_
    · exact results_cell_row Tryd.results85 _ _ w.heap.size 121 (slotC slot0).toArray (0, 0) _ (by rfl) OR.out Tryd.underlying121 rfl (by kernel_rfl)
    · exact ⟨by rw [HE.out], K⟩
  have t2 : ¬ (b2 : Int) ≥ (blocksN b1 : Int) := by omega
  by_cases h3 : capN b1 < sz
  · skip
    have t3 : (capN b1 : Int) < (sz : Int) := by omega
    have HBAD : Hid (decBad s = true) := by show _ = _; rw [HDB.out]; simp only [Bool.or_eq_true, decide_eq_true_eq, Bool.not_eq_true', beq_eq_false_iff_ne]; omega
    have cR0 := OR.out.cell? 0
    have fR0 := OR.out.frozen 0
    have cR1 := OR.out.cell? 1
    have fR1 := OR.out.frozen 1
    have cR2 := OR.out.cell? 2
    have fR2 := OR.out.frozen 2
    have cR3 := OR.out.cell? 3
    have fR3 := OR.out.frozen 3
    have cR4 := OR.out.cell? 4
    have fR4 := OR.out.frozen 4
    simp only [List.getElem?_cons_zero, List.getElem?_cons_succ] at cR0 cR1 cR2 cR3 cR4
    have cT0 := OT.out.cell? 0
    have fT0 := OT.out.frozen 0
    have cT1 := OT.out.cell? 1
    have fT1 := OT.out.frozen 1
    have cT2 := OT.out.cell? 2
    have fT2 := OT.out.frozen 2
    have cT3 := OT.out.cell? 3
    have fT3 := OT.out.frozen 3
    have cT4 := OT.out.cell? 4
    have fT4 := OT.out.frozen 4
    simp only [List.getElem?_cons_zero, List.getElem?_cons_succ] at cT0 cT1 cT2 cT3 cT4
    go_quiet ((first | (go_at_call 72; exact Calls.quiet_of_same (HBK.out _)) | (go_at_call 92; exact Calls.quiet_of_same (HCK.out _))))
    clear cR0 cR1 cR2 cR3 cR4 fR0 fR1 fR2 fR3 fR4 cT0 cT1 cT2 cT3 cT4 fT0 fT1 fT2 fT3 fT4
    replace OR := Lib.hid (OR.out.drewN nq)
    replace OT := Lib.hid (OT.out.drewN nq)
    replace K := K.drewN nq
    generalize (w4.drewN nq) = w5 at *
    have HE : Hid (decS s = slot0) := by show _ = _; unfold decS; rw [HBAD.out]; rfl
    have cR0 := OR.out.cell? 0
    have fR0 := OR.out.frozen 0
    have cR1 := OR.out.cell? 1
    have fR1 := OR.out.frozen 1
    have cR2 := OR.out.cell? 2
    have fR2 := OR.out.frozen 2
    have cR3 := OR.out.cell? 3
    have fR3 := OR.out.frozen 3
    have cR4 := OR.out.cell? 4
    have fR4 := OR.out.frozen 4
    simp only [List.getElem?_cons_zero, List.getElem?_cons_succ] at cR0 cR1 cR2 cR3 cR4
    have cT0 := OT.out.cell? 0
    have fT0 := OT.out.frozen 0
    have cT1 := OT.out.cell? 1
    have fT1 := OT.out.frozen 1
    have cT2 := OT.out.cell? 2
    have fT2 := OT.out.frozen 2
    have cT3 := OT.out.cell? 3
    have fT3 := OT.out.frozen 3
    have cT4 := OT.out.cell? 4
    have fT4 := OT.out.frozen 4
    simp only [List.getElem?_cons_zero, List.getElem?_cons_succ] at cT0 cT1 cT2 cT3 cT4
    go_wp2
    clear cR0 cR1 cR2 cR3 cR4 fR0 fR1 fR2 fR3 fR4 cT0 cT1 cT2 cT3 cT4 fT0 fT1 fT2 fT3 fT4
    replace OR : Hid (Own (((((w5.setCell ⟨w.heap.size, 0, none⟩ (.bool false)).setCell ⟨w.heap.size, 1, none⟩ (.int .i64 0)).setCell ⟨w.heap.size, 2, none⟩ (.int .i64 0)).setCell ⟨w.heap.size, 3, none⟩ (.int .i64 0)).setCell ⟨w.heap.size, 4, none⟩ (.string ⟨#[]⟩)) w.heap.size 121 [.bool false, .int .i64 0, .int .i64 0, .int .i64 0, .string ⟨#[]⟩]) := Lib.hid (((((OR.out.set_ 0 (.bool false)).set_ 1 (.int .i64 0)).set_ 2 (.int .i64 0)).set_ 3 (.int .i64 0)).set_ 4 (.string ⟨#[]⟩))
    replace OT : Hid (Own (((((w5.setCell ⟨w.heap.size, 0, none⟩ (.bool false)).setCell ⟨w.heap.size, 1, none⟩ (.int .i64 0)).setCell ⟨w.heap.size, 2, none⟩ (.int .i64 0)).setCell ⟨w.heap.size, 3, none⟩ (.int .i64 0)).setCell ⟨w.heap.size, 4, none⟩ (.string ⟨#[]⟩)) bT 121 [.bool true, .int .i64 (b1 : Int), .int .i64 (b2 : Int), .int .i64 (sz : Int), .string ⟨#[]⟩]) := Lib.hid (((((OT.out.far (p := ⟨w.heap.size, 0, none⟩) (by first | omega | (simp; omega) | simp) (.bool false)).far (p := ⟨w.heap.size, 1, none⟩) (by first | omega | (simp; omega) | simp) (.int .i64 0)).far (p := ⟨w.heap.size, 2, none⟩) (by first | omega | (simp; omega) | simp) (.int .i64 0)).far (p := ⟨w.heap.size, 3, none⟩) (by first | omega | (simp; omega) | simp) (.int .i64 0)).far (p := ⟨w.heap.size, 4, none⟩) (by first | omega | (simp; omega) | simp) (.string ⟨#[]⟩))
    replace K := (((((K.setCell (p := ⟨w.heap.size, 0, none⟩) (by first | exact Nat.le_refl _ | (simp only []; omega) | simp) (.bool false)).setCell (p := ⟨w.heap.size, 1, none⟩) (by first | exact Nat.le_refl _ | (simp only []; omega) | simp) (.int .i64 0)).setCell (p := ⟨w.heap.size, 2, none⟩) (by first | exact Nat.le_refl _ | (simp only []; omega) | simp) (.int .i64 0)).setCell (p := ⟨w.heap.size, 3, none⟩) (by first | exact Nat.le_refl _ | (simp only []; omega) | simp) (.int .i64 0)).setCell (p := ⟨w.heap.size, 4, none⟩) (by first | exact Nat.le_refl _ | (simp only []; omega) | simp) (.string ⟨#[]⟩))
    generalize (((((w5.setCell ⟨w.heap.size, 0, none⟩ (.bool false)).setCell ⟨w.heap.size, 1, none⟩ (.int .i64 0)).setCell ⟨w.heap.size, 2, none⟩ (.int .i64 0)).setCell ⟨w.heap.size, 3, none⟩ (.int .i64 0)).setCell ⟨w.heap.size, 4, none⟩ (.string ⟨#[]⟩)) = w6 at *
    refine bodyPost_ret (v := .agg (slotC slot0).toArray) ?_ rfl ?_
    · exact results_cell_row Tryd.results85 _ _ w.heap.size 121 (slotC slot0).toArray (0, 0) _ (by rfl) OR.out Tryd.underlying121 rfl (by kernel_rfl)
    · exact ⟨by rw [HE.out], K⟩
  have t3 : ¬ (capN b1 : Int) < (sz : Int) := by omega
  by_cases h4 : b5 < 1
  · skip
    have t4 : (b5 : Int) < 1 := by omega
    have HBAD : Hid (decBad s = true) := by show _ = _; rw [HDB.out]; simp only [Bool.or_eq_true, decide_eq_true_eq, Bool.not_eq_true', beq_eq_false_iff_ne]; omega
    have cR0 := OR.out.cell? 0
    have fR0 := OR.out.frozen 0
    have cR1 := OR.out.cell? 1
    have fR1 := OR.out.frozen 1
    have cR2 := OR.out.cell? 2
    have fR2 := OR.out.frozen 2
    have cR3 := OR.out.cell? 3
    have fR3 := OR.out.frozen 3
    have cR4 := OR.out.cell? 4
    have fR4 := OR.out.frozen 4
    simp only [List.getElem?_cons_zero, List.getElem?_cons_succ] at cR0 cR1 cR2 cR3 cR4
    have cT0 := OT.out.cell? 0
    have fT0 := OT.out.frozen 0
    have cT1 := OT.out.cell? 1
    have fT1 := OT.out.frozen 1
    have cT2 := OT.out.cell? 2
    have fT2 := OT.out.frozen 2
    have cT3 := OT.out.cell? 3
    have fT3 := OT.out.frozen 3
    have cT4 := OT.out.cell? 4
    have fT4 := OT.out.frozen 4
    simp only [List.getElem?_cons_zero, List.getElem?_cons_succ] at cT0 cT1 cT2 cT3 cT4
    go_quiet ((first | (go_at_call 72; exact Calls.quiet_of_same (HBK.out _)) | (go_at_call 92; exact Calls.quiet_of_same (HCK.out _))))
    clear cR0 cR1 cR2 cR3 cR4 fR0 fR1 fR2 fR3 fR4 cT0 cT1 cT2 cT3 cT4 fT0 fT1 fT2 fT3 fT4
    replace OR := Lib.hid (OR.out.drewN nq)
    replace OT := Lib.hid (OT.out.drewN nq)
    replace K := K.drewN nq
    generalize (w4.drewN nq) = w5 at *
    have HE : Hid (decS s = slot0) := by show _ = _; unfold decS; rw [HBAD.out]; rfl
    have cR0 := OR.out.cell? 0
    have fR0 := OR.out.frozen 0
    have cR1 := OR.out.cell? 1
    have fR1 := OR.out.frozen 1
    have cR2 := OR.out.cell? 2
    have fR2 := OR.out.frozen 2
    have cR3 := OR.out.cell? 3
    have fR3 := OR.out.frozen 3
    have cR4 := OR.out.cell? 4
    have fR4 := OR.out.frozen 4
    simp only [List.getElem?_cons_zero, List.getElem?_cons_succ] at cR0 cR1 cR2 cR3 cR4
    have cT0 := OT.out.cell? 0
    have fT0 := OT.out.frozen 0
    have cT1 := OT.out.cell? 1
    have fT1 := OT.out.frozen 1
    have cT2 := OT.out.cell? 2
    have fT2 := OT.out.frozen 2
    have cT3 := OT.out.cell? 3
    have fT3 := OT.out.frozen 3
    have cT4 := OT.out.cell? 4
    have fT4 := OT.out.frozen 4
    simp only [List.getElem?_cons_zero, List.getElem?_cons_succ] at cT0 cT1 cT2 cT3 cT4
    go_wp2
    clear cR0 cR1 cR2 cR3 cR4 fR0 fR1 fR2 fR3 fR4 cT0 cT1 cT2 cT3 cT4 fT0 fT1 fT2 fT3 fT4
    replace OR : Hid (Own (((((w5.setCell ⟨w.heap.size, 0, none⟩ (.bool false)).setCell ⟨w.heap.size, 1, none⟩ (.int .i64 0)).setCell ⟨w.heap.size, 2, none⟩ (.int .i64 0)).setCell ⟨w.heap.size, 3, none⟩ (.int .i64 0)).setCell ⟨w.heap.size, 4, none⟩ (.string ⟨#[]⟩)) w.heap.size 121 [.bool false, .int .i64 0, .int .i64 0, .int .i64 0, .string ⟨#[]⟩]) := Lib.hid (((((OR.out.set_ 0 (.bool false)).set_ 1 (.int .i64 0)).set_ 2 (.int .i64 0)).set_ 3 (.int .i64 0)).set_ 4 (.string ⟨#[]⟩))
    replace OT : Hid (Own (((((w5.setCell ⟨w.heap.size, 0, none⟩ (.bool false)).setCell ⟨w.heap.size, 1, none⟩ (.int .i64 0)).setCell ⟨w.heap.size, 2, none⟩ (.int .i64 0)).setCell ⟨w.heap.size, 3, none⟩ (.int .i64 0)).setCell ⟨w.heap.size, 4, none⟩ (.string ⟨#[]⟩)) bT 121 [.bool true, .int .i64 (b1 : Int), .int .i64 (b2 : Int), .int .i64 (sz : Int), .string ⟨#[]⟩]) := Lib.hid (((((OT.out.far (p := ⟨w.heap.size, 0, none⟩) (by first | omega | (simp; omega) | simp) (.bool false)).far (p := ⟨w.heap.size, 1, none⟩) (by first | omega | (simp; omega) | simp) (.int .i64 0)).far (p := ⟨w.heap.size, 2, none⟩) (by first | omega | (simp; omega) | simp) (.int .i64 0)).far (p := ⟨w.heap.size, 3, none⟩) (by first | omega | (simp; omega) | simp) (.int .i64 0)).far (p := ⟨w.heap.size, 4, none⟩) (by first | omega | (simp; omega) | simp) (.string ⟨#[]⟩))
    replace K := (((((K.setCell (p := ⟨w.heap.size, 0, none⟩) (by first | exact Nat.le_refl _ | (simp only []; omega) | simp) (.bool false)).setCell (p := ⟨w.heap.size, 1, none⟩) (by first | exact Nat.le_refl _ | (simp only []; omega) | simp) (.int .i64 0)).setCell (p := ⟨w.heap.size, 2, none⟩) (by first | exact Nat.le_refl _ | (simp only []; omega) | simp) (.int .i64 0)).setCell (p := ⟨w.heap.size, 3, none⟩) (by first | exact Nat.le_refl _ | (simp only []; omega) | simp) (.int .i64 0)).setCell (p := ⟨w.heap.size, 4, none⟩) (by first | exact Nat.le_refl _ | (simp only []; omega) | simp) (.string ⟨#[]⟩))
    generalize (((((w5.setCell ⟨w.heap.size, 0, none⟩ (.bool false)).setCell ⟨w.heap.size, 1, none⟩ (.int .i64 0)).setCell ⟨w.heap.size, 2, none⟩ (.int .i64 0)).setCell ⟨w.heap.size, 3, none⟩ (.int .i64 0)).setCell ⟨w.heap.size, 4, none⟩ (.string ⟨#[]⟩)) = w6 at *
    refine bodyPost_ret (v := .agg (slotC slot0).toArray) ?_ rfl ?_
    · exact results_cell_row Tryd.results85 _ _ w.heap.size 121 (slotC slot0).toArray (0, 0) _ (by rfl) OR.out Tryd.underlying121 rfl (by kernel_rfl)
    · exact ⟨by rw [HE.out], K⟩
  have t4 : ¬ (b5 : Int) < 1 := by omega
  by_cases h5 : 24 < b5
  · skip
    have t5 : (24 : Int) < (b5 : Int) := by omega
    have HBAD : Hid (decBad s = true) := by show _ = _; rw [HDB.out]; simp only [Bool.or_eq_true, decide_eq_true_eq, Bool.not_eq_true', beq_eq_false_iff_ne]; omega
    have cR0 := OR.out.cell? 0
    have fR0 := OR.out.frozen 0
    have cR1 := OR.out.cell? 1
    have fR1 := OR.out.frozen 1
    have cR2 := OR.out.cell? 2
    have fR2 := OR.out.frozen 2
    have cR3 := OR.out.cell? 3
    have fR3 := OR.out.frozen 3
    have cR4 := OR.out.cell? 4
    have fR4 := OR.out.frozen 4
    simp only [List.getElem?_cons_zero, List.getElem?_cons_succ] at cR0 cR1 cR2 cR3 cR4
    have cT0 := OT.out.cell? 0
    have fT0 := OT.out.frozen 0
    have cT1 := OT.out.cell? 1
    have fT1 := OT.out.frozen 1
    have cT2 := OT.out.cell? 2
    have fT2 := OT.out.frozen 2
    have cT3 := OT.out.cell? 3
    have fT3 := OT.out.frozen 3
    have cT4 := OT.out.cell? 4
    have fT4 := OT.out.frozen 4
    simp only [List.getElem?_cons_zero, List.getElem?_cons_succ] at cT0 cT1 cT2 cT3 cT4
    go_quiet ((first | (go_at_call 72; exact Calls.quiet_of_same (HBK.out _)) | (go_at_call 92; exact Calls.quiet_of_same (HCK.out _))))
    clear cR0 cR1 cR2 cR3 cR4 fR0 fR1 fR2 fR3 fR4 cT0 cT1 cT2 cT3 cT4 fT0 fT1 fT2 fT3 fT4
    replace OR := Lib.hid (OR.out.drewN nq)
    replace OT := Lib.hid (OT.out.drewN nq)
    replace K := K.drewN nq
    generalize (w4.drewN nq) = w5 at *
    have HE : Hid (decS s = slot0) := by show _ = _; unfold decS; rw [HBAD.out]; rfl
    have cR0 := OR.out.cell? 0
    have fR0 := OR.out.frozen 0
    have cR1 := OR.out.cell? 1
    have fR1 := OR.out.frozen 1
    have cR2 := OR.out.cell? 2
    have fR2 := OR.out.frozen 2
    have cR3 := OR.out.cell? 3
    have fR3 := OR.out.frozen 3
    have cR4 := OR.out.cell? 4
    have fR4 := OR.out.frozen 4
    simp only [List.getElem?_cons_zero, List.getElem?_cons_succ] at cR0 cR1 cR2 cR3 cR4
    have cT0 := OT.out.cell? 0
    have fT0 := OT.out.frozen 0
    have cT1 := OT.out.cell? 1
    have fT1 := OT.out.frozen 1
    have cT2 := OT.out.cell? 2
    have fT2 := OT.out.frozen 2
    have cT3 := OT.out.cell? 3
    have fT3 := OT.out.frozen 3
    have cT4 := OT.out.cell? 4
    have fT4 := OT.out.frozen 4
    simp only [List.getElem?_cons_zero, List.getElem?_cons_succ] at cT0 cT1 cT2 cT3 cT4
    go_wp2
    clear cR0 cR1 cR2 cR3 cR4 fR0 fR1 fR2 fR3 fR4 cT0 cT1 cT2 cT3 cT4 fT0 fT1 fT2 fT3 fT4
    replace OR : Hid (Own (((((w5.setCell ⟨w.heap.size, 0, none⟩ (.bool false)).setCell ⟨w.heap.size, 1, none⟩ (.int .i64 0)).setCell ⟨w.heap.size, 2, none⟩ (.int .i64 0)).setCell ⟨w.heap.size, 3, none⟩ (.int .i64 0)).setCell ⟨w.heap.size, 4, none⟩ (.string ⟨#[]⟩)) w.heap.size 121 [.bool false, .int .i64 0, .int .i64 0, .int .i64 0, .string ⟨#[]⟩]) := Lib.hid (((((OR.out.set_ 0 (.bool false)).set_ 1 (.int .i64 0)).set_ 2 (.int .i64 0)).set_ 3 (.int .i64 0)).set_ 4 (.string ⟨#[]⟩))
    replace OT : Hid (Own (((((w5.setCell ⟨w.heap.size, 0, none⟩ (.bool false)).setCell ⟨w.heap.size, 1, none⟩ (.int .i64 0)).setCell ⟨w.heap.size, 2, none⟩ (.int .i64 0)).setCell ⟨w.heap.size, 3, none⟩ (.int .i64 0)).setCell ⟨w.heap.size, 4, none⟩ (.string ⟨#[]⟩)) bT 121 [.bool true, .int .i64 (b1 : Int), .int .i64 (b2 : Int), .int .i64 (sz : Int), .string ⟨#[]⟩]) := Lib.hid (((((OT.out.far (p := ⟨w.heap.size, 0, none⟩) (by first | omega | (simp; omega) | simp) (.bool false)).far (p := ⟨w.heap.size, 1, none⟩) (by first | omega | (simp; omega) | simp) (.int .i64 0)).far (p := ⟨w.heap.size, 2, none⟩) (by first | omega | (simp; omega) | simp) (.int .i64 0)).far (p := ⟨w.heap.size, 3, none⟩) (by first | omega | (simp; omega) | simp) (.int .i64 0)).far (p := ⟨w.heap.size, 4, none⟩) (by first | omega | (simp; omega) | simp) (.string ⟨#[]⟩))
    replace K := (((((K.setCell (p := ⟨w.heap.size, 0, none⟩) (by first | exact Nat.le_refl _ | (simp only []; omega) | simp) (.bool false)).setCell (p := ⟨w.heap.size, 1, none⟩) (by first | exact Nat.le_refl _ | (simp only []; omega) | simp) (.int .i64 0)).setCell (p := ⟨w.heap.size, 2, none⟩) (by first | exact Nat.le_refl _ | (simp only []; omega) | simp) (.int .i64 0)).setCell (p := ⟨w.heap.size, 3, none⟩) (by first | exact Nat.le_refl _ | (simp only []; omega) | simp) (.int .i64 0)).setCell (p := ⟨w.heap.size, 4, none⟩) (by first | exact Nat.le_refl _ | (simp only []; omega) | simp) (.string ⟨#[]⟩))
    generalize (((((w5.setCell ⟨w.heap.size, 0, none⟩ (.bool false)).setCell ⟨w.heap.size, 1, none⟩ (.int .i64 0)).setCell ⟨w.heap.size, 2, none⟩ (.int .i64 0)).setCell ⟨w.heap.size, 3, none⟩ (.int .i64 0)).setCell ⟨w.heap.size, 4, none⟩ (.string ⟨#[]⟩)) = w6 at *
    refine bodyPost_ret (v := .agg (slotC slot0).toArray) ?_ rfl ?_
    · exact results_cell_row Tryd.results85 _ _ w.heap.size 121 (slotC slot0).toArray (0, 0) _ (by rfl) OR.out Tryd.underlying121 rfl (by kernel_rfl)
    · exact ⟨by rw [HE.out], K⟩
  have t5 : ¬ (24 : Int) < (b5 : Int) := by omega
  have cR0 := OR.out.cell? 0
  have fR0 := OR.out.frozen 0
  have cR1 := OR.out.cell? 1
  have fR1 := OR.out.frozen 1
  have cR2 := OR.out.cell? 2
  have fR2 := OR.out.frozen 2
  have cR3 := OR.out.cell? 3
  have fR3 := OR.out.frozen 3
  have cR4 := OR.out.cell? 4
  have fR4 := OR.out.frozen 4
  simp only [List.getElem?_cons_zero, List.getElem?_cons_succ] at cR0 cR1 cR2 cR3 cR4
  have cT0 := OT.out.cell? 0
  have fT0 := OT.out.frozen 0
  have cT1 := OT.out.cell? 1
  have fT1 := OT.out.frozen 1
  have cT2 := OT.out.cell? 2
  have fT2 := OT.out.frozen 2
  have cT3 := OT.out.cell? 3
  have fT3 := OT.out.frozen 3
  have cT4 := OT.out.cell? 4
  have fT4 := OT.out.frozen 4
  simp only [List.getElem?_cons_zero, List.getElem?_cons_succ] at cT0 cT1 cT2 cT3 cT4
  go_quiet ((first | (go_at_call 72; exact Calls.quiet_of_same (HBK.out _)) | (go_at_call 92; exact Calls.quiet_of_same (HCK.out _))))
  clear cR0 cR1 cR2 cR3 cR4 fR0 fR1 fR2 fR3 fR4 cT0 cT1 cT2 cT3 cT4 fT0 fT1 fT2 fT3 fT4
  replace OR := Lib.hid (OR.out.drewN nq)
  replace OT := Lib.hid (OT.out.drewN nq)
  replace K := K.drewN nq
  generalize (w4.drewN nq) = w5 at *
  have HGOOD : Hid (decBad s = false) := by show _ = _; rw [HDB.out]; simp only [Bool.or_eq_false_iff, decide_eq_false_iff_not, Bool.not_eq_false', beq_iff_eq]; omega
  have k1 : (0 : Int) ≤ 6 + (b5 : Int) := by omega
  have k2 : 6 + (b5 : Int) ≤ 64 := by omega
  have k3 : (6 + (b5 : Int)).toNat = 6 + b5 := by omega
  have k4 : 6 + b5 ≤ 64 := by omega
  have k5 : (6 : Int) ≤ 6 + (b5 : Int) := by omega
  have hnm : (s.extract 6 (6 + b5)).size ≤ 24 := by rw [ByteArray.size_extract]; omega
  have cR0 := OR.out.cell? 0
  have fR0 := OR.out.frozen 0
  have cR1 := OR.out.cell? 1
  have fR1 := OR.out.frozen 1
  have cR2 := OR.out.cell? 2
  have fR2 := OR.out.frozen 2
  have cR3 := OR.out.cell? 3
  have fR3 := OR.out.frozen 3
  have cR4 := OR.out.cell? 4
  have fR4 := OR.out.frozen 4
  simp only [List.getElem?_cons_zero, List.getElem?_cons_succ] at cR0 cR1 cR2 cR3 cR4
  have cT0 := OT.out.cell? 0
  have fT0 := OT.out.frozen 0
  have cT1 := OT.out.cell? 1
  have fT1 := OT.out.frozen 1
  have cT2 := OT.out.cell? 2
  have fT2 := OT.out.frozen 2
  have cT3 := OT.out.cell? 3
  have fT3 := OT.out.frozen 3
  have cT4 := OT.out.cell? 4
  have fT4 := OT.out.frozen 4
  simp only [List.getElem?_cons_zero, List.getElem?_cons_succ] at cT0 cT1 cT2 cT3 cT4
  go_wp2_with fail
  clear cR0 cR1 cR2 cR3 cR4 fR0 fR1 fR2 fR3 fR4 cT0 cT1 cT2 cT3 cT4 fT0 fT1 fT2 fT3 fT4
  replace OR : Hid (Own (w5.setCell ⟨bT, 4, none⟩ (.string (s.extract 6 (6 + b5)))) w.heap.size 121 [.bool false, .int .i64 0, .int .i64 0, .int .i64 0, .string ⟨#[]⟩]) := Lib.hid (OR.out.far (p := ⟨bT, 4, none⟩) (by first | omega | (simp; omega) | simp) (.string (s.extract 6 (6 + b5))))
  replace OT : Hid (Own (w5.setCell ⟨bT, 4, none⟩ (.string (s.extract 6 (6 + b5)))) bT 121 [.bool true, .int .i64 (b1 : Int), .int .i64 (b2 : Int), .int .i64 (sz : Int), .string (s.extract 6 (6 + b5))]) := Lib.hid (OT.out.set_ 4 (.string (s.extract 6 (6 + b5))))
  replace K := (K.setCell (p := ⟨bT, 4, none⟩) (by first | exact Nat.le_refl _ | (simp only []; omega) | simp) (.string (s.extract 6 (6 + b5))))
  generalize (w5.setCell ⟨bT, 4, none⟩ (.string (s.extract 6 (6 + b5)))) = w6 at *
  clear k1 k2 k3 k4 k5
  generalize s.extract 6 (6 + b5) = nm at *
  refine (enc_any ⟨true, b1, b2, sz, nm⟩ _ (by have := HSZ.out; show sz ≤ _; omega) (by show nm.size ≤ _; omega)).mono ?_
  rintro e w7 ⟨rfl, hk⟩
  replace OR := Lib.hid (OR.out.kept hk)
  replace OT := Lib.hid (OT.out.kept hk)
  replace K := K.trans hk
  clear hk
  have HDE : ∀ q, (s.toList == (encS ⟨true, b1, b2, sz, nm⟩).toList) = q → decS s = if q then ⟨true, b1, b2, sz, nm⟩ else slot0 := fun q e => by
    unfold decS
    rw [HGOOD.out, HRW.out, e]; rfl
  generalize encS ⟨true, b1, b2, sz, nm⟩ = en at *
  obtain ⟨q, hq⟩ : ∃ q, (s.toList == en.toList) = q := ⟨_, rfl⟩
  have HQ := Lib.hid (HDE q hq)
  clear HDE
  cases q with
  | false =>
    have HE : Hid (decS s = slot0) := HQ.out
    have cR0 := OR.out.cell? 0
    have fR0 := OR.out.frozen 0
    have cR1 := OR.out.cell? 1
    have fR1 := OR.out.frozen 1
    have cR2 := OR.out.cell? 2
    have fR2 := OR.out.frozen 2
    have cR3 := OR.out.cell? 3
    have fR3 := OR.out.frozen 3
    have cR4 := OR.out.cell? 4
    have fR4 := OR.out.frozen 4
    simp only [List.getElem?_cons_zero, List.getElem?_cons_succ] at cR0 cR1 cR2 cR3 cR4
    have cT0 := OT.out.cell? 0
    have fT0 := OT.out.frozen 0
    have cT1 := OT.out.cell? 1
    have fT1 := OT.out.frozen 1
    have cT2 := OT.out.cell? 2
    have fT2 := OT.out.frozen 2
    have cT3 := OT.out.cell? 3
    have fT3 := OT.out.frozen 3
    have cT4 := OT.out.cell? 4
    have fT4 := OT.out.frozen 4
    simp only [List.getElem?_cons_zero, List.getElem?_cons_succ] at cT0 cT1 cT2 cT3 cT4
    go_wp2
    clear cR0 cR1 cR2 cR3 cR4 fR0 fR1 fR2 fR3 fR4 cT0 cT1 cT2 cT3 cT4 fT0 fT1 fT2 fT3 fT4
    replace OR : Hid (Own (((((w7.setCell ⟨w.heap.size, 0, none⟩ (.bool false)).setCell ⟨w.heap.size, 1, none⟩ (.int .i64 0)).setCell ⟨w.heap.size, 2, none⟩ (.int .i64 0)).setCell ⟨w.heap.size, 3, none⟩ (.int .i64 0)).setCell ⟨w.heap.size, 4, none⟩ (.string ⟨#[]⟩)) w.heap.size 121 [.bool false, .int .i64 0, .int .i64 0, .int .i64 0, .string ⟨#[]⟩]) := Lib.hid (((((OR.out.set_ 0 (.bool false)).set_ 1 (.int .i64 0)).set_ 2 (.int .i64 0)).set_ 3 (.int .i64 0)).set_ 4 (.string ⟨#[]⟩))
    replace OT : Hid (Own (((((w7.setCell ⟨w.heap.size, 0, none⟩ (.bool false)).setCell ⟨w.heap.size, 1, none⟩ (.int .i64 0)).setCell ⟨w.heap.size, 2, none⟩ (.int .i64 0)).setCell ⟨w.heap.size, 3, none⟩ (.int .i64 0)).setCell ⟨w.heap.size, 4, none⟩ (.string ⟨#[]⟩)) bT 121 [.bool true, .int .i64 (b1 : Int), .int .i64 (b2 : Int), .int .i64 (sz : Int), .string nm]) := Lib.hid (((((OT.out.far (p := ⟨w.heap.size, 0, none⟩) (by first | omega | (simp; omega) | simp) (.bool false)).far (p := ⟨w.heap.size, 1, none⟩) (by first | omega | (simp; omega) | simp) (.int .i64 0)).far (p := ⟨w.heap.size, 2, none⟩) (by first | omega | (simp; omega) | simp) (.int .i64 0)).far (p := ⟨w.heap.size, 3, none⟩) (by first | omega | (simp; omega) | simp) (.int .i64 0)).far (p := ⟨w.heap.size, 4, none⟩) (by first | omega | (simp; omega) | simp) (.string ⟨#[]⟩))
    replace K := (((((K.setCell (p := ⟨w.heap.size, 0, none⟩) (by first | exact Nat.le_refl _ | (simp only []; omega) | simp) (.bool false)).setCell (p := ⟨w.heap.size, 1, none⟩) (by first | exact Nat.le_refl _ | (simp only []; omega) | simp) (.int .i64 0)).setCell (p := ⟨w.heap.size, 2, none⟩) (by first | exact Nat.le_refl _ | (simp only []; omega) | simp) (.int .i64 0)).setCell (p := ⟨w.heap.size, 3, none⟩) (by first | exact Nat.le_refl _ | (simp only []; omega) | simp) (.int .i64 0)).setCell (p := ⟨w.heap.size, 4, none⟩) (by first | exact Nat.le_refl _ | (simp only []; omega) | simp) (.string ⟨#[]⟩))
    generalize (((((w7.setCell ⟨w.heap.size, 0, none⟩ (.bool false)).setCell ⟨w.heap.size, 1, none⟩ (.int .i64 0)).setCell ⟨w.heap.size, 2, none⟩ (.int .i64 0)).setCell ⟨w.heap.size, 3, none⟩ (.int .i64 0)).setCell ⟨w.heap.size, 4, none⟩ (.string ⟨#[]⟩)) = w8 at *
    refine bodyPost_ret (v := .agg (slotC slot0).toArray) ?_ rfl ?_
    · exact results_cell_row Tryd.results85 _ _ w.heap.size 121 (slotC slot0).toArray (0, 0) _ (by rfl) OR.out Tryd.underlying121 rfl (by kernel_rfl)
    · exact ⟨by rw [HE.out], K⟩
  | true =>
    have HE : Hid (decS s = ⟨true, b1, b2, sz, nm⟩) := HQ.out
    have cR0 := OR.out.cell? 0
    have fR0 := OR.out.frozen 0
    have cR1 := OR.out.cell? 1
    have fR1 := OR.out.frozen 1
    have cR2 := OR.out.cell? 2
    have fR2 := OR.out.frozen 2
    have cR3 := OR.out.cell? 3
    have fR3 := OR.out.frozen 3
    have cR4 := OR.out.cell? 4
    have fR4 := OR.out.frozen 4
    simp only [List.getElem?_cons_zero, List.getElem?_cons_succ] at cR0 cR1 cR2 cR3 cR4
    have cT0 := OT.out.cell? 0
    have fT0 := OT.out.frozen 0
    have cT1 := OT.out.cell? 1
    have fT1 := OT.out.frozen 1
    have cT2 := OT.out.cell? 2
    have fT2 := OT.out.frozen 2
    have cT3 := OT.out.cell? 3
    have fT3 := OT.out.frozen 3
    have cT4 := OT.out.cell? 4
    have fT4 := OT.out.frozen 4
    simp only [List.getElem?_cons_zero, List.getElem?_cons_succ] at cT0 cT1 cT2 cT3 cT4
    go_wp2
    clear cR0 cR1 cR2 cR3 cR4 fR0 fR1 fR2 fR3 fR4 cT0 cT1 cT2 cT3 cT4 fT0 fT1 fT2 fT3 fT4
    replace OR : Hid (Own (((((w7.setCell ⟨w.heap.size, 0, none⟩ (.bool true)).setCell ⟨w.heap.size, 1, none⟩ (.int .i64 (b1 : Int))).setCell ⟨w.heap.size, 2, none⟩ (.int .i64 (b2 : Int))).setCell ⟨w.heap.size, 3, none⟩ (.int .i64 (sz : Int))).setCell ⟨w.heap.size, 4, none⟩ (.string nm)) w.heap.size 121 [.bool true, .int .i64 (b1 : Int), .int .i64 (b2 : Int), .int .i64 (sz : Int), .string nm]) := Lib.hid (((((OR.out.set_ 0 (.bool true)).set_ 1 (.int .i64 (b1 : Int))).set_ 2 (.int .i64 (b2 : Int))).set_ 3 (.int .i64 (sz : Int))).set_ 4 (.string nm))
    replace OT : Hid (Own (((((w7.setCell ⟨w.heap.size, 0, none⟩ (.bool true)).setCell ⟨w.heap.size, 1, none⟩ (.int .i64 (b1 : Int))).setCell ⟨w.heap.size, 2, none⟩ (.int .i64 (b2 : Int))).setCell ⟨w.heap.size, 3, none⟩ (.int .i64 (sz : Int))).setCell ⟨w.heap.size, 4, none⟩ (.string nm)) bT 121 [.bool true, .int .i64 (b1 : Int), .int .i64 (b2 : Int), .int .i64 (sz : Int), .string nm]) := Lib.hid (((((OT.out.far (p := ⟨w.heap.size, 0, none⟩) (by first | omega | (simp; omega) | simp) (.bool true)).far (p := ⟨w.heap.size, 1, none⟩) (by first | omega | (simp; omega) | simp) (.int .i64 (b1 : Int))).far (p := ⟨w.heap.size, 2, none⟩) (by first | omega | (simp; omega) | simp) (.int .i64 (b2 : Int))).far (p := ⟨w.heap.size, 3, none⟩) (by first | omega | (simp; omega) | simp) (.int .i64 (sz : Int))).far (p := ⟨w.heap.size, 4, none⟩) (by first | omega | (simp; omega) | simp) (.string nm))
    replace K := (((((K.setCell (p := ⟨w.heap.size, 0, none⟩) (by first | exact Nat.le_refl _ | (simp only []; omega) | simp) (.bool true)).setCell (p := ⟨w.heap.size, 1, none⟩) (by first | exact Nat.le_refl _ | (simp only []; omega) | simp) (.int .i64 (b1 : Int))).setCell (p := ⟨w.heap.size, 2, none⟩) (by first | exact Nat.le_refl _ | (simp only []; omega) | simp) (.int .i64 (b2 : Int))).setCell (p := ⟨w.heap.size, 3, none⟩) (by first | exact Nat.le_refl _ | (simp only []; omega) | simp) (.int .i64 (sz : Int))).setCell (p := ⟨w.heap.size, 4, none⟩) (by first | exact Nat.le_refl _ | (simp only []; omega) | simp) (.string nm))
    generalize (((((w7.setCell ⟨w.heap.size, 0, none⟩ (.bool true)).setCell ⟨w.heap.size, 1, none⟩ (.int .i64 (b1 : Int))).setCell ⟨w.heap.size, 2, none⟩ (.int .i64 (b2 : Int))).setCell ⟨w.heap.size, 3, none⟩ (.int .i64 (sz : Int))).setCell ⟨w.heap.size, 4, none⟩ (.string nm)) = w8 at *
    refine bodyPost_ret (v := .agg (slotC ⟨true, b1, b2, sz, nm⟩).toArray) ?_ rfl ?_
    · exact results_cell_row Tryd.results85 _ _ w.heap.size 121 (slotC ⟨true, b1, b2, sz, nm⟩).toArray (0, 0) _ (by rfl) OR.out Tryd.underlying121 rfl (by kernel_rfl)
    · exact ⟨by rw [HE.out], K⟩
end Go.Proofs.YtagpimahicgkmaaDoor
