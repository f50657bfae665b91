/- Walk: mailsacklaw10.below. -/
import Derived.Test.YtagpimahicgkmaaDoorL10S
import Derived.Test.YtagpimahicgkmaaDoorLast
namespace Go.Proofs.YtagpimahicgkmaaDoor
open Go.RowKit

def belowTo (a b : List ByteArray) (n : Nat) : Bool := (List.range n).all fun i => decide (i < 61) || ((atS a i).toList == (atS b i).toList)
theorem below_no {a b : List ByteArray} {n i : Nat} (hi : i < n) (h1 : 61 ≤ i) (h : ((atS a i).toList == (atS b i).toList) = false) : belowTo a b n = false := by
  unfold belowTo
  rw [List.all_eq_false]
  exact ⟨i, List.mem_range.2 hi, by simp only [h, Bool.or_false, decide_eq_true_eq]; omega⟩
theorem below_yes {a b : List ByteArray} {n : Nat} (h : ∀ i, 61 ≤ i → i < n → (atS a i).toList == (atS b i).toList) : belowTo a b n = true := by
  unfold belowTo
  rw [List.all_eq_true]
  intro i hi
  rw [List.mem_range] at hi
  by_cases h1 : i < 61
  · rw [decide_eq_true h1, Bool.true_or]
  · rw [h i (by omega) hi, Bool.or_true]

set_option maxRecDepth 100000 in
set_option maxHeartbeats 2000000 in
theorem below_any (a b : Dk) (v u : Value) (w : World) (h : DkAt [] w v a) (g : DkAt [] w u b) (hl : b.sec.length = a.sec.length) (ha : a.cache = []) (hb : b.cache = []) :
    Calls Tryd.prog 30 #[v, u] w fun e w' => e = .returned (.bool (belowTo a.sec b.sec a.sec.length)) ∧ Kept w w' := by
  obtain ⟨_, _, rfl, ⟨A, c, rfl, hc1, hc2, hra⟩, ⟨B, c', rfl, _, hc4, _⟩⟩ := h
  obtain ⟨_, _, rfl, ⟨E, f, rfl, he1, he2, hrb⟩, ⟨G, f', rfl, _, he4, _⟩⟩ := g
  unfold maxLen at hc2 hc4 he2 he4
  have HRA := Lib.hid hra
  have HRB := Lib.hid hrb
  clear hra hrb
  rw [ha, hb]
  rw [hl] at he1 ⊢
  have HNB := Lib.hid hl
  clear hl ha hb
  generalize hn : a.sec.length = n at *
  have HNA := Lib.hid hn
  clear hn
  dsimp only [List.length_nil]
  go_enter Tryd.func30, Tryd.ntmps30
  go_wp2_with fail
  have OD := Lib.hid ((Own.newAt w w.heap.size 25 [.slice A n c, .slice B 0 c'] (by simp)).alloc (.cells #[.slice E n f, .slice G 0 f'] 25))
  have OE := Lib.hid (Own.newAt (w.alloc (.cells #[.slice A n c, .slice B 0 c'] 25)) (w.heap.size + 1) 25 [.slice E n f, .slice G 0 f'] (by simp))
  have K := (((Kept.refl w).alloc (.cells #[.slice A n c, .slice B 0 c'] 25)).alloc (.cells #[.slice E n f, .slice G 0 f'] 25))
  generalize ((w.alloc (.cells #[.slice A n c, .slice B 0 c'] 25)).alloc (.cells #[.slice E n f, .slice G 0 f'] 25)) = w1 at *
  obtain ⟨cD0, cD1, fD0, fD1⟩ := OD.out.two
  obtain ⟨cE0, cE1, fE0, fE1⟩ := OE.out.two
  go_wp2_with fail
  go_loopw [5] (fun iv wq => ∃ (i : Nat), 61 ≤ i ∧ iv = .int .i64 i ∧ Hid (∀ j, 61 ≤ j → j < i → j < n → ((atS a.sec j).toList == (atS b.sec j).toList) = true) ∧ Kept w1 wq) (fun iv _ => n - (intOf iv).toNat)
  case atStart => exact ⟨61, Nat.le_refl _, rfl, fun j h1 h2 => by omega, Kept.refl _⟩
  case round =>
    obtain ⟨i, hi1, rfl, HA, K9⟩ := hrel
    clear cD0 cD1 fD0 fD1 cE0 cE1 fE0 fE1
    replace OD := Lib.hid (OD.out.kept K9)
    replace OE := Lib.hid (OE.out.kept K9)
    replace K := K.trans K9
    have K9h := Lib.hid K9
    clear K9
    have i0 : (0 : Int) ≤ (i : Int) := by omega
    by_cases hlt : i < n
    · have hlt' : (i : Int) < (n : Int) := by omega
      obtain ⟨b1, o1, rfl, hb1, _, hc1⟩ := (HRA.out.kept K) (by rw [strs_length, HNA.out]; omega)
      obtain ⟨b2, o2, rfl, hb2, _, hc2⟩ := (HRB.out.kept K) (by rw [strs_length, HNB.out]; omega)
      have g1 : wr.cell? ⟨b1, o1 + i, none⟩ = some (.string (atS a.sec i)) := hc1 _ _ (strs_atS (by rw [HNA.out]; exact hlt))
      have g2 : wr.cell? ⟨b2, o2 + i, none⟩ = some (.string (atS b.sec i)) := hc2 _ _ (strs_atS (by rw [HNB.out]; exact hlt))
      obtain ⟨q, hq⟩ : ∃ q, ((atS a.sec i).toList == (atS b.sec i).toList) = q := ⟨_, rfl⟩
      have HQ := Lib.hid hq
      clear hc1 hc2
      have KWR : Hid (Kept w1 wr) := K9h.out
      clear hlt
      have hlt : i < n := by omega
      obtain ⟨cD0, cD1, fD0, fD1⟩ := OD.out.two
      obtain ⟨cE0, cE1, fE0, fE1⟩ := OE.out.two
      go_upto_region 6 with fail
      clear cD0 cD1 fD0 fD1 cE0 cE1 fE0 fE1
      have CD0 : ∀ W', Kept wr W' → W'.cell? ⟨w.heap.size, 0, none⟩ = some (.slice (some ⟨b1, o1, none⟩) n c) := fun W' hk => (OD.out.kept hk).cell? 0
      have CD1 : ∀ W', Kept wr W' → W'.cell? ⟨w.heap.size, 1, none⟩ = some (.slice B 0 c') := fun W' hk => (OD.out.kept hk).cell? 1
      have CE0 : ∀ W', Kept wr W' → W'.cell? ⟨(w.heap.size + 1), 0, none⟩ = some (.slice (some ⟨b2, o2, none⟩) n f) := fun W' hk => (OE.out.kept hk).cell? 0
      have CE1 : ∀ W', Kept wr W' → W'.cell? ⟨(w.heap.size + 1), 1, none⟩ = some (.slice G 0 f') := fun W' hk => (OE.out.kept hk).cell? 1
      have CX1 : ∀ W', Kept wr W' → W'.cell? ⟨b1, o1 + i, none⟩ = some (.string (atS a.sec i)) := fun W' k => (k.cell (p := ⟨b1, o1 + i, none⟩) hb1).trans g1
      have CX2 : ∀ W', Kept wr W' → W'.cell? ⟨b2, o2 + i, none⟩ = some (.string (atS b.sec i)) := fun W' k => (k.cell (p := ⟨b2, o2 + i, none⟩) hb2).trans g2
      refine wp_region_Z (S := fun W' => Kept wr W') (Z := []) (by kernel_rfl) ((Kept.refl _).drew) (fun hHeld => ?_)
      have kr := (Kept.refl wr).drew
      have Kr := K
      have zr := K.size
      have ODr := OD
      have OEr := OE
      replace OD := Lib.hid (ODr.out.kept kr)
      replace OE := Lib.hid (OEr.out.kept kr)
      replace K := Kr.trans kr
      generalize wr.drew = w2 at *
      refine wpAnyZ_take (i := 0) (oi := { dst := some 30, op := Op.fieldAddr 25 (Operand.tmp 2) 0, type := 0, pos := "law.go:94", after := #[], guard := none }) (v := ?_) rfl (by kernel_rfl) (fun _ _ _ h => h) (Or.inl ⟨by rfl, ?_⟩) (by assumption) ?_
      rotate_left
      · (intro wz hSw; (try dsimp only at hSw); go_simp; (try with_reducible rfl))
      (try simp only [Act.put, List.setIfInBounds_toArray, List.set_cons_zero, List.set_cons_succ])
      refine wpAnyZ_take (i := 1) (oi := { dst := some 31, op := Op.load 22 (Operand.tmp 30), type := 22, pos := "law.go:94", after := #[{ on := 0, ground := Ground.data }], guard := none }) (v := ?_) rfl (by kernel_rfl) (fun _ _ _ h => h) (Or.inl ⟨by rfl, ?_⟩) (by assumption) ?_
      rotate_left
      · (intro wz hSw; (try dsimp only at hSw); go_simp; (try with_reducible rfl))
      (try simp only [Act.put, List.setIfInBounds_toArray, List.set_cons_zero, List.set_cons_succ])
      refine wpAnyZ_take (i := 2) (oi := { dst := some 32, op := Op.move (Operand.tmp 5), type := 3, pos := "law.go:94", after := #[], guard := none }) (v := ?_) rfl (by kernel_rfl) (fun _ _ _ h => h) (Or.inl ⟨by rfl, ?_⟩) (by assumption) ?_
      rotate_left
      · (intro wz hSw; (try dsimp only at hSw); go_simp; (try with_reducible rfl))
      (try simp only [Act.put, List.setIfInBounds_toArray, List.set_cons_zero, List.set_cons_succ])
      refine wpAnyZ_take (i := 3) (oi := { dst := some 33, op := Op.indexAddr 22 (Operand.tmp 31) (Operand.tmp 32), type := 0, pos := "law.go:94", after := #[{ on := 1, ground := Ground.data }, { on := 2, ground := Ground.data }], guard := none }) (v := ?_) rfl (by kernel_rfl) (fun _ _ _ h => h) (Or.inl ⟨by rfl, ?_⟩) (by assumption) ?_
      rotate_left
      · (intro wz hSw; (try dsimp only at hSw); go_simp; (try with_reducible rfl))
      (try simp only [Act.put, List.setIfInBounds_toArray, List.set_cons_zero, List.set_cons_succ])
      refine wpAnyZ_take (i := 4) (oi := { dst := some 34, op := Op.load 9 (Operand.tmp 33), type := 9, pos := "law.go:94", after := #[{ on := 3, ground := Ground.data }], guard := none }) (v := ?_) rfl (by kernel_rfl) (fun _ _ _ h => h) (Or.inl ⟨by rfl, ?_⟩) (by assumption) ?_
      rotate_left
      · (intro wz hSw; (try dsimp only at hSw); go_simp; (try with_reducible rfl))
      (try simp only [Act.put, List.setIfInBounds_toArray, List.set_cons_zero, List.set_cons_succ])
      refine wpAnyZ_take (i := 5) (oi := { dst := some 35, op := Op.fieldAddr 25 (Operand.tmp 3) 0, type := 0, pos := "law.go:94", after := #[], guard := none }) (v := ?_) rfl (by kernel_rfl) (fun _ _ _ h => h) (Or.inl ⟨by rfl, ?_⟩) (by assumption) ?_
      rotate_left
      · (intro wz hSw; (try dsimp only at hSw); go_simp; (try with_reducible rfl))
      (try simp only [Act.put, List.setIfInBounds_toArray, List.set_cons_zero, List.set_cons_succ])
      refine wpAnyZ_take (i := 6) (oi := { dst := some 36, op := Op.load 22 (Operand.tmp 35), type := 22, pos := "law.go:94", after := #[{ on := 5, ground := Ground.data }], guard := none }) (v := ?_) rfl (by kernel_rfl) (fun _ _ _ h => h) (Or.inl ⟨by rfl, ?_⟩) (by assumption) ?_
      rotate_left
      · (intro wz hSw; (try dsimp only at hSw); go_simp; (try with_reducible rfl))
      (try simp only [Act.put, List.setIfInBounds_toArray, List.set_cons_zero, List.set_cons_succ])
      refine wpAnyZ_take (i := 7) (oi := { dst := some 37, op := Op.move (Operand.tmp 5), type := 3, pos := "law.go:94", after := #[], guard := none }) (v := ?_) rfl (by kernel_rfl) (fun _ _ _ h => h) (Or.inl ⟨by rfl, ?_⟩) (by assumption) ?_
      rotate_left
      · (intro wz hSw; (try dsimp only at hSw); go_simp; (try with_reducible rfl))
      (try simp only [Act.put, List.setIfInBounds_toArray, List.set_cons_zero, List.set_cons_succ])
      refine wpAnyZ_take (i := 8) (oi := { dst := some 38, op := Op.indexAddr 22 (Operand.tmp 36) (Operand.tmp 37), type := 0, pos := "law.go:94", after := #[{ on := 6, ground := Ground.data }, { on := 7, ground := Ground.data }], guard := none }) (v := ?_) rfl (by kernel_rfl) (fun _ _ _ h => h) (Or.inl ⟨by rfl, ?_⟩) (by assumption) ?_
      rotate_left
      · (intro wz hSw; (try dsimp only at hSw); go_simp; (try with_reducible rfl))
      (try simp only [Act.put, List.setIfInBounds_toArray, List.set_cons_zero, List.set_cons_succ])
      refine wpAnyZ_take (i := 9) (oi := { dst := some 39, op := Op.load 9 (Operand.tmp 38), type := 9, pos := "law.go:94", after := #[{ on := 8, ground := Ground.data }], guard := none }) (v := ?_) rfl (by kernel_rfl) (fun _ _ _ h => h) (Or.inl ⟨by rfl, ?_⟩) (by assumption) ?_
      rotate_left
      · (intro wz hSw; (try dsimp only at hSw); go_simp; (try with_reducible rfl))
      (try simp only [Act.put, List.setIfInBounds_toArray, List.set_cons_zero, List.set_cons_succ])
      refine wpAnyZ_take (i := 10) (oi := { dst := some 40, op := Op.binOp BinOp.neq 9 (Operand.tmp 34) (Operand.tmp 39) 9, type := 4, pos := "law.go:94", after := #[{ on := 4, ground := Ground.data }, { on := 9, ground := Ground.data }], guard := none }) (v := ?_) rfl (by kernel_rfl) (fun _ _ _ h => h) (Or.inl ⟨by rfl, ?_⟩) (by assumption) ?_
      rotate_left
      · (intro wz hSw; (try dsimp only at hSw); go_simp; (try with_reducible rfl))
      (try simp only [Act.put, List.setIfInBounds_toArray, List.set_cons_zero, List.set_cons_succ])
      refine wpAnyZ_done (by kernel_rfl) ?_ _
      have kr9 := kr
      clear CD0 CD1 CE0 CE1 CX1 CX2 ODr OEr Kr zr hHeld kr
      cases q with
      | false =>
        have HE : Hid (belowTo a.sec b.sec n = false) := below_no hlt hi1 HQ.out
        go_wp2
        go_ret
        exact ⟨ret_bool HE.out.symm, K⟩
      | true =>
        have HA2 : Hid (∀ j, 61 ≤ j → j < i + 1 → j < n → ((atS a.sec j).toList == (atS b.sec j).toList) = true) := fun j h1 h2 h3 => by
          by_cases e : j = i
          · subst e; exact HQ.out
          · exact HA.out j h1 (by omega) h3
        have KW : Kept w1 w2 := KWR.out.trans kr9
        go_wp2
        go_roundw
        case rel => exact ⟨i + 1, by omega, by go_num, HA2, KW⟩
        case measure => simp [intOf]; omega
    · have hlt' : ¬ (i : Int) < (n : Int) := by omega
      have HE : Hid (belowTo a.sec b.sec n = true) := below_yes (fun j h1 h2 => HA.out j h1 (by omega) h2)
      obtain ⟨cD0, cD1, fD0, fD1⟩ := OD.out.two
      obtain ⟨cE0, cE1, fE0, fE1⟩ := OE.out.two
      go_wp2
      go_ret
      exact ⟨ret_bool HE.out.symm, K⟩
end Go.Proofs.YtagpimahicgkmaaDoor
