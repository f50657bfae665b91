/- Walk: (*state).set. -/
import Derived.Test.YtagpimahicgkmaaDoorMg
namespace Go.Proofs.YtagpimahicgkmaaDoor
open Go.RowKit

set_option maxRecDepth 100000 in
set_option maxHeartbeats 2000000 in
theorem set_any (V V0 V1 : Nat → Prop) (s k : Nat) (l : List Slot) (tk0 tk1 : List Bool) (ws : List Wr) (t : Slot) (w : World) (h : StAt V V0 V1 w s l tk0 tk1 ws) (hk : k < 32) (hsz : t.size ≤ 100000) (hns : t.name.size ≤ 100000) (hws : ws.length ≤ 100000) :
    Calls Tryd.prog 89 #[.pointer (some ⟨s, 0, none⟩), .int .i64 (k : Int), .agg (slotC t).toArray] w fun e w' => e = .returned (.tuple #[]) ∧ StAt V V0 V1 w' s (l.set k t) tk0 tk1 (ws ++ [⟨61 + k, encS t⟩]) ∧ Turn (fun k => ¬ V k) w w' := by
  obtain ⟨g, q0, q1, wv, h⟩ := h
  have HS := Lib.hid h
  have HE := Lib.hid (fun w' => enc_any t w' hsz hns)
  have HR := Lib.hid h.row
  obtain ⟨A, c, rfl, _, _, _⟩ := own_form (V := []) h.row (by simp)
  have OS := Lib.hid h.st
  have OL := Lib.hid h.sl
  have HLN := Lib.hid h.len
  have hsg := h.sg
  have hsw := h.ws'
  have hgw := h.wg
  have HSW := Lib.hid (And.intro hsw hgw)
  clear h hsw hgw
  generalize hn : ws.length = n at *
  have HN := Lib.hid hn
  obtain ⟨tu, tc, tb, tz, tn⟩ := t
  show Calls _ _ #[_, _, .agg #[.bool tu, .int .i64 (tc : Int), .int .i64 (tb : Int), .int .i64 (tz : Int), .string tn]] w _
  clear hsz hns hn
  have k0 : (0 : Int) ≤ (k : Int) := by omega
  have k1 : (k : Int) < 32 := by omega
  have hw61 : IntKind.i64.wrap (61 + (k : Int)) = 61 + (k : Int) := IntWalk.i64_in _ (by omega)
  have hv61 : wrap64 (61 + (k : Int)) = 61 + (k : Int) := IntWalk.wrap64_in _ (by omega)
  have HST : Hid (Turn (stS s g (.slice A n c)) w w) := Turn.refl _ _
  go_enter Tryd.func89, Tryd.ntmps89
  go_upto_region 1 with fail
  have OB := Lib.hid (Own.new w 121 [.bool tu, .int .i64 (tc : Int), .int .i64 (tb : Int), .int .i64 (tz : Int), .string tn])
  replace OS := Lib.hid (OS.out.alloc (.cells #[.bool tu, .int .i64 (tc : Int), .int .i64 (tb : Int), .int .i64 (tz : Int), .string tn] 121))
  replace OL := Lib.hid (OL.out.alloc (.cells #[.bool tu, .int .i64 (tc : Int), .int .i64 (tb : Int), .int .i64 (tz : Int), .string tn] 121))
  replace HST := Lib.hid (HST.out.alloc (.cells #[.bool tu, .int .i64 (tc : Int), .int .i64 (tb : Int), .int .i64 (tz : Int), .string tn] 121))
  replace HR := Lib.hid (ownsRow_kept HR.out ((Kept.refl w).alloc (.cells #[.bool tu, .int .i64 (tc : Int), .int .i64 (tb : Int), .int .i64 (tz : Int), .string tn] 121)))
  have hzb : g < w.heap.size ∧ s < w.heap.size := ⟨HS.out.sl.lt, HS.out.st.lt⟩
  have HZB := Lib.hid hzb
  have HWL := Lib.hid (HS.out.row.lt)
  generalize (w.alloc (.cells #[.bool tu, .int .i64 (tc : Int), .int .i64 (tb : Int), .int .i64 (tz : Int), .string tn] 121)) = w1 at *
  generalize hbn : w.heap.size = nb at *
  have K : Kept w1 w1 := Kept.refl _
  have CS0 : ∀ W', Kept w1 W' → W'.cell? ⟨s, 0, none⟩ = some (.slice (some ⟨g, 0, none⟩) 32 32) := fun W' hk => (OS.out.kept hk).cell? 0
  have CS1 : ∀ W', Kept w1 W' → W'.cell? ⟨s, 1, none⟩ = some (.pointer (some ⟨q0, 0, none⟩)) := fun W' hk => (OS.out.kept hk).cell? 1
  have CS2 : ∀ W', Kept w1 W' → W'.cell? ⟨s, 2, none⟩ = some (.pointer (some ⟨q1, 0, none⟩)) := fun W' hk => (OS.out.kept hk).cell? 2
  have CS3 : ∀ W', Kept w1 W' → W'.cell? ⟨s, 3, none⟩ = some (.slice A n c) := fun W' hk => (OS.out.kept hk).cell? 3
  have CB0 : ∀ W', Kept w1 W' → W'.cell? ⟨nb, 0, none⟩ = some (.bool tu) := fun W' hk => (OB.out.kept hk).cell? 0
  have CB1 : ∀ W', Kept w1 W' → W'.cell? ⟨nb, 1, none⟩ = some (.int .i64 (tc : Int)) := fun W' hk => (OB.out.kept hk).cell? 1
  have CB2 : ∀ W', Kept w1 W' → W'.cell? ⟨nb, 2, none⟩ = some (.int .i64 (tb : Int)) := fun W' hk => (OB.out.kept hk).cell? 2
  have CB3 : ∀ W', Kept w1 W' → W'.cell? ⟨nb, 3, none⟩ = some (.int .i64 (tz : Int)) := fun W' hk => (OB.out.kept hk).cell? 3
  have CB4 : ∀ W', Kept w1 W' → W'.cell? ⟨nb, 4, none⟩ = some (.string tn) := fun W' hk => (OB.out.kept hk).cell? 4
  refine wp_region_Z (S := fun W' => Kept w1 W') (Z := [7]) (by kernel_rfl) ((Kept.refl w1).drew) (fun hHeld => ?_)
  have kr := (Kept.refl w1).drew
  have Kr := K
  have zr := K.size
  have OSr := OS
  have OLr := OL
  have OBr := OB
  have HRr := HR
  replace OS := Lib.hid (OSr.out.kept kr)
  replace OL := Lib.hid (OLr.out.kept kr)
  replace OB := Lib.hid (OBr.out.kept kr)
  replace HR := Lib.hid (ownsRow_kept HRr.out kr)
  replace K := Kr.trans kr
  generalize w1.drew = w2 at *
  refine wpAnyZ_take (i := 0) (oi := { dst := some 6, op := Op.move (Operand.tmp 0), type := 149, pos := "store.go:176", after := #[], guard := none }) (v := ?_) rfl (by kernel_rfl) (fun _ _ _ h => h) (Or.inl ⟨by rfl, ?_⟩) (by assumption) ?_
  rotate_left
  · (intro wz hSw; (try dsimp only at hSw); go_simp; (try with_reducible rfl))
  (try simp only [Act.put, List.setIfInBounds_toArray, List.set_cons_zero, List.set_cons_succ])
  refine wpAnyZ_take (i := 1) (oi := { dst := some 7, op := Op.nilCheck (Operand.tmp 6), type := 0, pos := "store.go:176", after := #[{ on := 0, ground := Ground.data }], guard := none }) (v := ?_) rfl (by kernel_rfl) (fun _ _ _ h => h) (Or.inl ⟨by rfl, ?_⟩) (by assumption) ?_
  rotate_left
  · (intro wz hSw; (try dsimp only at hSw); go_simp; (try with_reducible rfl))
  (try simp only [Act.put, List.setIfInBounds_toArray, List.set_cons_zero, List.set_cons_succ])
  refine wpAnyZ_take (i := 2) (oi := { dst := some 8, op := Op.fieldAddr 127 (Operand.tmp 7) 0, type := 0, pos := "store.go:176", after := #[{ on := 1, ground := Ground.data }], guard := none }) (v := ?_) rfl (by kernel_rfl) (fun _ _ _ h => h) (Or.inl ⟨by rfl, ?_⟩) (by assumption) ?_
  rotate_left
  · (intro wz hSw; (try dsimp only at hSw); go_simp; (try with_reducible rfl))
  (try simp only [Act.put, List.setIfInBounds_toArray, List.set_cons_zero, List.set_cons_succ])
  refine wpAnyZ_take (i := 3) (oi := { dst := some 9, op := Op.load 118 (Operand.tmp 8), type := 118, pos := "store.go:176", after := #[{ on := 2, ground := Ground.data }], guard := none }) (v := ?_) rfl (by kernel_rfl) (fun _ _ _ h => h) (Or.inl ⟨by rfl, ?_⟩) (by assumption) ?_
  rotate_left
  · (intro wz hSw; (try dsimp only at hSw); go_simp; (try with_reducible rfl))
  (try simp only [Act.put, List.setIfInBounds_toArray, List.set_cons_zero, List.set_cons_succ])
  refine wpAnyZ_take (i := 4) (oi := { dst := some 10, op := Op.move (Operand.tmp 1), type := 3, pos := "store.go:176", after := #[], guard := none }) (v := ?_) rfl (by kernel_rfl) (fun _ _ _ h => h) (Or.inl ⟨by rfl, ?_⟩) (by assumption) ?_
  rotate_left
  · (intro wz hSw; (try dsimp only at hSw); go_simp; (try with_reducible rfl))
  (try simp only [Act.put, List.setIfInBounds_toArray, List.set_cons_zero, List.set_cons_succ])
  refine wpAnyZ_take (i := 5) (oi := { dst := some 11, op := Op.load 121 (Operand.tmp 5), type := 121, pos := "store.go:176", after := #[], guard := none }) (v := ?_) rfl (by kernel_rfl) (fun _ _ _ h => h) (Or.inl ⟨by rfl, ?_⟩) (by assumption) ?_
  rotate_left
  · (intro wz hSw; (try dsimp only at hSw); go_simp; (try with_reducible rfl))
  (try simp only [Act.put, List.setIfInBounds_toArray, List.set_cons_zero, List.set_cons_succ])
  refine wpAnyZ_take (i := 6) (oi := { dst := some 12, op := Op.indexAddr 118 (Operand.tmp 9) (Operand.tmp 10), type := 0, pos := "store.go:176", after := #[{ on := 3, ground := Ground.data }, { on := 4, ground := Ground.data }, { on := 0, ground := Ground.phase }, { on := 1, ground := Ground.phase }, { on := 2, ground := Ground.phase }, { on := 3, ground := Ground.phase }, { on := 4, ground := Ground.phase }, { on := 5, ground := Ground.phase }], guard := none }) (v := ?_) rfl (by kernel_rfl) (fun _ _ _ h => h) (Or.inl ⟨by rfl, ?_⟩) (by assumption) ?_
  rotate_left
  · (intro wz hSw; (try dsimp only at hSw); go_simp; (try with_reducible rfl))
  (try simp only [Act.put, List.setIfInBounds_toArray, List.set_cons_zero, List.set_cons_succ])
  refine wpAnyZ_ready (rs := [7]) (by kernel_rfl) (by simp) ?_
  refine AllReadyZ.late (o := { dst := none, op := Op.store 121 (Operand.tmp 12) (Operand.tmp 11), type := 0, pos := "store.go:176", after := #[{ on := 6, ground := Ground.data }, { on := 5, ground := Ground.data }, { on := 0, ground := Ground.phase }, { on := 1, ground := Ground.phase }, { on := 2, ground := Ground.phase }, { on := 3, ground := Ground.phase }, { on := 4, ground := Ground.phase }, { on := 5, ground := Ground.phase }], guard := none }) rfl (by simp) (fun KK hKK => ?_) AllReadyZ.nil
  have HST2 := Lib.hid (slot_set (l := l) (k := k) (by rw [HLN.out]; exact hk) ⟨tu, tc, tb, tz, tn⟩)
  have HL1 : Hid ((l.flatMap slotC).length = 160) := by show _ = _; rw [slot_len, HLN.out]
  have f0 := OL.out.frozen (k * 5)
  obtain ⟨o0, ho0⟩ : ∃ x, w2.cell? ⟨g, k * 5, none⟩ = some x := ⟨_, OL.out.cell (by rw [HL1.out]; omega)⟩
  have f1 := OL.out.frozen (k * 5 + 1)
  obtain ⟨o1, ho1⟩ : ∃ x, w2.cell? ⟨g, k * 5 + 1, none⟩ = some x := ⟨_, OL.out.cell (by rw [HL1.out]; omega)⟩
  have f2 := OL.out.frozen (k * 5 + 2)
  obtain ⟨o2, ho2⟩ : ∃ x, w2.cell? ⟨g, k * 5 + 2, none⟩ = some x := ⟨_, OL.out.cell (by rw [HL1.out]; omega)⟩
  have f3 := OL.out.frozen (k * 5 + 3)
  obtain ⟨o3, ho3⟩ : ∃ x, w2.cell? ⟨g, k * 5 + 3, none⟩ = some x := ⟨_, OL.out.cell (by rw [HL1.out]; omega)⟩
  have f4 := OL.out.frozen (k * 5 + 4)
  obtain ⟨o4, ho4⟩ : ∃ x, w2.cell? ⟨g, k * 5 + 4, none⟩ = some x := ⟨_, OL.out.cell (by rw [HL1.out]; omega)⟩
  have zg := OL.out.lt
  go_simp
  clear f0 f1 f2 f3 f4 ho0 ho1 ho2 ho3 ho4 zg
  replace OS : Hid (Own (((((w2.setCell ⟨g, k * 5, none⟩ (.bool tu)).setCell ⟨g, k * 5 + 1, none⟩ (.int .i64 (tc : Int))).setCell ⟨g, k * 5 + 2, none⟩ (.int .i64 (tb : Int))).setCell ⟨g, k * 5 + 3, none⟩ (.int .i64 (tz : Int))).setCell ⟨g, k * 5 + 4, none⟩ (.string tn)) s 127 [.slice (some ⟨g, 0, none⟩) 32 32, .pointer (some ⟨q0, 0, none⟩), .pointer (some ⟨q1, 0, none⟩), .slice A n c]) := Lib.hid (((((OS.out.far (p := ⟨g, k * 5, none⟩) (by first | omega | (simp; omega) | exact hsg | exact hsg.symm) (.bool tu)).far (p := ⟨g, k * 5 + 1, none⟩) (by first | omega | (simp; omega) | exact hsg | exact hsg.symm) (.int .i64 (tc : Int))).far (p := ⟨g, k * 5 + 2, none⟩) (by first | omega | (simp; omega) | exact hsg | exact hsg.symm) (.int .i64 (tb : Int))).far (p := ⟨g, k * 5 + 3, none⟩) (by first | omega | (simp; omega) | exact hsg | exact hsg.symm) (.int .i64 (tz : Int))).far (p := ⟨g, k * 5 + 4, none⟩) (by first | omega | (simp; omega) | exact hsg | exact hsg.symm) (.string tn))
  replace OB : Hid (Own (((((w2.setCell ⟨g, k * 5, none⟩ (.bool tu)).setCell ⟨g, k * 5 + 1, none⟩ (.int .i64 (tc : Int))).setCell ⟨g, k * 5 + 2, none⟩ (.int .i64 (tb : Int))).setCell ⟨g, k * 5 + 3, none⟩ (.int .i64 (tz : Int))).setCell ⟨g, k * 5 + 4, none⟩ (.string tn)) nb 121 [.bool tu, .int .i64 (tc : Int), .int .i64 (tb : Int), .int .i64 (tz : Int), .string tn]) := Lib.hid (((((OB.out.far (p := ⟨g, k * 5, none⟩) (fun e => by have := HZB.out; simp only at e; omega) (.bool tu)).far (p := ⟨g, k * 5 + 1, none⟩) (fun e => by have := HZB.out; simp only at e; omega) (.int .i64 (tc : Int))).far (p := ⟨g, k * 5 + 2, none⟩) (fun e => by have := HZB.out; simp only at e; omega) (.int .i64 (tb : Int))).far (p := ⟨g, k * 5 + 3, none⟩) (fun e => by have := HZB.out; simp only at e; omega) (.int .i64 (tz : Int))).far (p := ⟨g, k * 5 + 4, none⟩) (fun e => by have := HZB.out; simp only at e; omega) (.string tn))
  replace HR := Lib.hid (ownsRow_setCell_other (ownsRow_setCell_other (ownsRow_setCell_other (ownsRow_setCell_other (ownsRow_setCell_other HR.out (a := ⟨g, k * 5, none⟩) (fun e => HSW.out.2 e) (.bool tu)) (a := ⟨g, k * 5 + 1, none⟩) (fun e => HSW.out.2 e) (.int .i64 (tc : Int))) (a := ⟨g, k * 5 + 2, none⟩) (fun e => HSW.out.2 e) (.int .i64 (tb : Int))) (a := ⟨g, k * 5 + 3, none⟩) (fun e => HSW.out.2 e) (.int .i64 (tz : Int))) (a := ⟨g, k * 5 + 4, none⟩) (fun e => HSW.out.2 e) (.string tn))
  replace OL : Hid (Own (((((w2.setCell ⟨g, k * 5, none⟩ (.bool tu)).setCell ⟨g, k * 5 + 1, none⟩ (.int .i64 (tc : Int))).setCell ⟨g, k * 5 + 2, none⟩ (.int .i64 (tb : Int))).setCell ⟨g, k * 5 + 3, none⟩ (.int .i64 (tz : Int))).setCell ⟨g, k * 5 + 4, none⟩ (.string tn)) g 121 ((l.set k ⟨tu, tc, tb, tz, tn⟩).flatMap slotC)) := by rw [← HST2.out]; exact Lib.hid (((((OL.out.set_ (k * 5) (.bool tu)).set_ (k * 5 + 1) (.int .i64 (tc : Int))).set_ (k * 5 + 2) (.int .i64 (tb : Int))).set_ (k * 5 + 3) (.int .i64 (tz : Int))).set_ (k * 5 + 4) (.string tn))
  replace HST := Lib.hid ((((((HST.out.trans (Turn.of_kept kr)).setCell (p := ⟨g, k * 5, none⟩) (.inr (.inl rfl)) (.bool tu)).setCell (p := ⟨g, k * 5 + 1, none⟩) (.inr (.inl rfl)) (.int .i64 (tc : Int))).setCell (p := ⟨g, k * 5 + 2, none⟩) (.inr (.inl rfl)) (.int .i64 (tb : Int))).setCell (p := ⟨g, k * 5 + 3, none⟩) (.inr (.inl rfl)) (.int .i64 (tz : Int))).setCell (p := ⟨g, k * 5 + 4, none⟩) (.inr (.inl rfl)) (.string tn))
  generalize (((((w2.setCell ⟨g, k * 5, none⟩ (.bool tu)).setCell ⟨g, k * 5 + 1, none⟩ (.int .i64 (tc : Int))).setCell ⟨g, k * 5 + 2, none⟩ (.int .i64 (tb : Int))).setCell ⟨g, k * 5 + 3, none⟩ (.int .i64 (tz : Int))).setCell ⟨g, k * 5 + 4, none⟩ (.string tn)) = w3 at *
  refine hKK.out _ _ ?_
  clear hKK KK
  (try simp only [Act.put, List.setIfInBounds_toArray, List.set_cons_zero, List.set_cons_succ])
  refine wpAnyZ_done (by kernel_rfl) ?_ _
  clear CS0 CS1 CS2 CS3 CB0 CB1 CB2 CB3 CB4 OSr OLr OBr HRr Kr zr hHeld kr
  have K : Kept w3 w3 := Kept.refl _
  have HSB : Hid ((Value.slice A n c).ownBlock ≠ some nb) := fun e => by have := (HWL.out _ e).2; omega
  go_upto_region 2 with fail
  have CS0 : ∀ W', Turn (fun k => (Value.slice A n c).ownBlock = some k) w3 W' → W'.cell? ⟨s, 0, none⟩ = some (.slice (some ⟨g, 0, none⟩) 32 32) := fun W' hk => (OS.out.turn hk HSW.out.1).cell? 0
  have CS1 : ∀ W', Turn (fun k => (Value.slice A n c).ownBlock = some k) w3 W' → W'.cell? ⟨s, 1, none⟩ = some (.pointer (some ⟨q0, 0, none⟩)) := fun W' hk => (OS.out.turn hk HSW.out.1).cell? 1
  have CS2 : ∀ W', Turn (fun k => (Value.slice A n c).ownBlock = some k) w3 W' → W'.cell? ⟨s, 2, none⟩ = some (.pointer (some ⟨q1, 0, none⟩)) := fun W' hk => (OS.out.turn hk HSW.out.1).cell? 2
  have CS3 : ∀ W', Turn (fun k => (Value.slice A n c).ownBlock = some k) w3 W' → W'.cell? ⟨s, 3, none⟩ = some (.slice A n c) := fun W' hk => (OS.out.turn hk HSW.out.1).cell? 3
  have CB0 : ∀ W', Turn (fun k => (Value.slice A n c).ownBlock = some k) w3 W' → W'.cell? ⟨nb, 0, none⟩ = some (.bool tu) := fun W' hk => (OB.out.turn hk HSB.out).cell? 0
  have CB1 : ∀ W', Turn (fun k => (Value.slice A n c).ownBlock = some k) w3 W' → W'.cell? ⟨nb, 1, none⟩ = some (.int .i64 (tc : Int)) := fun W' hk => (OB.out.turn hk HSB.out).cell? 1
  have CB2 : ∀ W', Turn (fun k => (Value.slice A n c).ownBlock = some k) w3 W' → W'.cell? ⟨nb, 2, none⟩ = some (.int .i64 (tb : Int)) := fun W' hk => (OB.out.turn hk HSB.out).cell? 2
  have CB3 : ∀ W', Turn (fun k => (Value.slice A n c).ownBlock = some k) w3 W' → W'.cell? ⟨nb, 3, none⟩ = some (.int .i64 (tz : Int)) := fun W' hk => (OB.out.turn hk HSB.out).cell? 3
  have CB4 : ∀ W', Turn (fun k => (Value.slice A n c).ownBlock = some k) w3 W' → W'.cell? ⟨nb, 4, none⟩ = some (.string tn) := fun W' hk => (OB.out.turn hk HSB.out).cell? 4
  refine wp_region_Z (S := fun W' => Turn (fun k => (Value.slice A n c).ownBlock = some k) w3 W') (Z := [14]) (by kernel_rfl) ((Turn.refl (fun k => (Value.slice A n c).ownBlock = some k) w3).drew) (fun hHeld => ?_)
  have kr := (Turn.refl (fun k => (Value.slice A n c).ownBlock = some k) w3).drew
  have Kr := K
  have zr := K.size
  have OSr := OS
  have OLr := OL
  have OBr := OB
  replace OS := Lib.hid (OSr.out.turn kr HSW.out.1)
  replace OL := Lib.hid (OLr.out.turn kr HSW.out.2)
  replace OB := Lib.hid (OBr.out.turn kr HSB.out)
  replace HR := Lib.hid (ownsRow_kept HR.out (Kept.refl w3).drew)
  generalize w3.drew = w4 at *
  refine wpAnyZ_take (i := 0) (oi := { dst := some 13, op := Op.move (Operand.tmp 0), type := 149, pos := "store.go:177", after := #[], guard := none }) (v := ?_) rfl (by kernel_rfl) (fun _ _ _ h => h) (Or.inl ⟨by rfl, ?_⟩) (by assumption) ?_
  rotate_left
  · (intro wz hSw; (try dsimp only at hSw); go_simp; (try with_reducible rfl))
  (try simp only [Act.put, List.setIfInBounds_toArray, List.set_cons_zero, List.set_cons_succ])
  refine wpAnyZ_take (i := 1) (oi := { dst := some 14, op := Op.move (Operand.tmp 0), type := 149, pos := "store.go:177", after := #[], guard := none }) (v := ?_) rfl (by kernel_rfl) (fun _ _ _ h => h) (Or.inl ⟨by rfl, ?_⟩) (by assumption) ?_
  rotate_left
  · (intro wz hSw; (try dsimp only at hSw); go_simp; (try with_reducible rfl))
  (try simp only [Act.put, List.setIfInBounds_toArray, List.set_cons_zero, List.set_cons_succ])
  refine wpAnyZ_take (i := 2) (oi := { dst := some 15, op := Op.nilCheck (Operand.tmp 14), type := 0, pos := "store.go:177", after := #[{ on := 1, ground := Ground.data }], guard := none }) (v := ?_) rfl (by kernel_rfl) (fun _ _ _ h => h) (Or.inl ⟨by rfl, ?_⟩) (by assumption) ?_
  rotate_left
  · (intro wz hSw; (try dsimp only at hSw); go_simp; (try with_reducible rfl))
  (try simp only [Act.put, List.setIfInBounds_toArray, List.set_cons_zero, List.set_cons_succ])
  refine wpAnyZ_take (i := 3) (oi := { dst := some 16, op := Op.fieldAddr 127 (Operand.tmp 15) 2, type := 0, pos := "store.go:177", after := #[{ on := 2, ground := Ground.data }], guard := none }) (v := ?_) rfl (by kernel_rfl) (fun _ _ _ h => h) (Or.inl ⟨by rfl, ?_⟩) (by assumption) ?_
  rotate_left
  · (intro wz hSw; (try dsimp only at hSw); go_simp; (try with_reducible rfl))
  (try simp only [Act.put, List.setIfInBounds_toArray, List.set_cons_zero, List.set_cons_succ])
  refine wpAnyZ_take (i := 4) (oi := { dst := some 17, op := Op.load 23 (Operand.tmp 16), type := 23, pos := "store.go:177", after := #[{ on := 3, ground := Ground.data }], guard := none }) (v := ?_) rfl (by kernel_rfl) (fun _ _ _ h => h) (Or.inl ⟨by rfl, ?_⟩) (by assumption) ?_
  rotate_left
  · (intro wz hSw; (try dsimp only at hSw); go_simp; (try with_reducible rfl))
  (try simp only [Act.put, List.setIfInBounds_toArray, List.set_cons_zero, List.set_cons_succ])
  refine wpAnyZ_take (i := 5) (oi := { dst := some 18, op := Op.move (Operand.tmp 1), type := 3, pos := "store.go:177", after := #[], guard := none }) (v := ?_) rfl (by kernel_rfl) (fun _ _ _ h => h) (Or.inl ⟨by rfl, ?_⟩) (by assumption) ?_
  rotate_left
  · (intro wz hSw; (try dsimp only at hSw); go_simp; (try with_reducible rfl))
  (try simp only [Act.put, List.setIfInBounds_toArray, List.set_cons_zero, List.set_cons_succ])
  refine wpAnyZ_take (i := 6) (oi := { dst := some 19, op := Op.binOp BinOp.add 3 (Operand.const (Value.int IntKind.i64 61)) (Operand.tmp 18) 3, type := 3, pos := "store.go:177", after := #[{ on := 5, ground := Ground.data }], guard := none }) (v := ?_) rfl (by kernel_rfl) (fun _ _ _ h => h) (Or.inl ⟨by rfl, ?_⟩) (by assumption) ?_
  rotate_left
  · (intro wz hSw; (try dsimp only at hSw); go_simp; (try with_reducible rfl))
  (try simp only [Act.put, List.setIfInBounds_toArray, List.set_cons_zero, List.set_cons_succ])
  refine wpAnyZ_take (i := 7) (oi := { dst := some 20, op := Op.load 121 (Operand.tmp 5), type := 121, pos := "store.go:177", after := #[], guard := none }) (v := ?_) rfl (by kernel_rfl) (fun _ _ _ h => h) (Or.inl ⟨by rfl, ?_⟩) (by assumption) ?_
  rotate_left
  · (intro wz hSw; (try dsimp only at hSw); go_simp; (try with_reducible rfl))
  (try simp only [Act.put, List.setIfInBounds_toArray, List.set_cons_zero, List.set_cons_succ])
  refine wpAnyZ_ready (rs := [8]) (by kernel_rfl) (by simp) ?_
  refine AllReadyZ.cons (o := { dst := some 21, op := Op.call { callee := Callee.value (Operand.func 106), args := #[Operand.tmp 20], argTypes := #[121] }, type := 9, pos := "store.go:177", after := #[{ on := 7, ground := Ground.data }], guard := none }) rfl (fun KK hKK => ?_) AllReadyZ.nil
  go_simp
  refine (HE.out w4).mono ?_
  rintro e w5 ⟨rfl, hk⟩
  clear hHeld
  replace kr := kr.trans (Turn.of_kept hk)
  replace OS := Lib.hid (OSr.out.turn kr HSW.out.1)
  replace OL := Lib.hid (OLr.out.turn kr HSW.out.2)
  replace OB := Lib.hid (OBr.out.turn kr HSB.out)
  replace HR := Lib.hid (ownsRow_kept HR.out hk)
  clear hk
  go_simp
  refine hKK.out _ _ ?_ (fun hHeld => ?_)
  · exact kr
  clear hKK KK
  (try simp only [Act.put, List.setIfInBounds_toArray, List.set_cons_zero, List.set_cons_succ])
  refine wpAnyZ_take (i := 9) (oi := { dst := some 22, op := Op.build 38 #[(0, Operand.tmp 19), (1, Operand.tmp 21)], type := 38, pos := "store.go:177", after := #[{ on := 6, ground := Ground.data }, { on := 8, ground := Ground.data }], guard := none }) (v := ?_) rfl (by kernel_rfl) (fun _ _ _ h => h) (Or.inl ⟨by rfl, ?_⟩) (by assumption) ?_
  rotate_left
  · (intro wz hSw; (try dsimp only at hSw); go_simp; (try with_reducible rfl))
  (try simp only [Act.put, List.setIfInBounds_toArray, List.set_cons_zero, List.set_cons_succ])
  refine wpAnyZ_ready (rs := [10]) (by kernel_rfl) (by simp) ?_
  refine AllReadyZ.cons (o := { dst := some 23, op := Op.buildSlice 23 1 #[(0, Operand.tmp 22)], type := 23, pos := "store.go:177", after := #[{ on := 9, ground := Ground.data }], guard := none }) rfl (fun KK hKK => ?_) AllReadyZ.nil
  go_simp
  replace kr := kr.alloc (.cells #[.int .i64 (61 + (k : Int)), .string (encS ⟨tu, tc, tb, tz, tn⟩)] 38)
  clear hHeld
  have OX := Lib.hid (Own.new w5 38 [.int .i64 (61 + (k : Int)), .string (encS ⟨tu, tc, tb, tz, tn⟩)])
  replace HR := Lib.hid (ownsRow_kept HR.out ((Kept.refl w5).alloc (.cells #[.int .i64 (61 + (k : Int)), .string (encS ⟨tu, tc, tb, tz, tn⟩)] 38)))
  replace OS := Lib.hid (OSr.out.turn kr HSW.out.1)
  replace OL := Lib.hid (OLr.out.turn kr HSW.out.2)
  replace OB := Lib.hid (OBr.out.turn kr HSB.out)
  generalize (w5.alloc (.cells #[.int .i64 (61 + (k : Int)), .string (encS ⟨tu, tc, tb, tz, tn⟩)] 38)) = w6 at *
  generalize w5.heap.size = bx at *
  refine hKK.out _ _ ?_ (fun hHeld => ?_)
  · exact kr
  clear hKK KK
  (try simp only [Act.put, List.setIfInBounds_toArray, List.set_cons_zero, List.set_cons_succ])
  refine wpAnyZ_ready (rs := [11]) (by kernel_rfl) (by simp) ?_
  refine AllReadyZ.cons (o := { dst := some 24, op := Op.call { callee := Callee.builtin Builtin.append, args := #[Operand.tmp 17, Operand.tmp 23], argTypes := #[23, 23] }, type := 23, pos := "store.go:177", after := #[{ on := 4, ground := Ground.data }, { on := 10, ground := Ground.data }, { on := 8, ground := Ground.chain }], guard := none }) rfl (fun KK hKK => ?_) AllReadyZ.nil
  have HNL : Hid ((([⟨61 + k, encS ⟨tu, tc, tb, tz, tn⟩⟩] : List Wr)).flatMap wrC = [.int .i64 (61 + (k : Int)), .string (encS ⟨tu, tc, tb, tz, tn⟩)]) := by show [Value.int .i64 ((61 + k : Nat) : Int), .string _] = _; rw [show ((61 + k : Nat) : Int) = 61 + (k : Int) by omega]
  refine Tryd.elWr.step_app rfl _ _ rfl 0 (.slice A n c) ws rfl (by rw [HN.out]; exact HR.out) [] (some ⟨bx, 0, none⟩) 1 [⟨61 + k, encS ⟨tu, tc, tb, tz, tn⟩⟩] rfl (by rw [HNL.out]; exact OX.out.row (by simp)) (wrC_one _) (by unfold maxLen; simp only [List.length_cons, List.length_nil]; have := HN.out; omega) (by simp only [List.length_cons, List.length_nil]; have := HN.out; omega) (Nat.zero_le _) ?_
  intro v9 w7 hap hgr hat
  have hzk := kr.size
  replace kr := kr.trans (Turn.of_grown hgr)
  clear hHeld
  replace OS := Lib.hid (OSr.out.turn kr HSW.out.1)
  replace OL := Lib.hid (OLr.out.turn kr HSW.out.2)
  replace OB := Lib.hid (OBr.out.turn kr HSB.out)
  have HAT : Hid (∀ j, v9.ownBlock = some j → (Value.slice A n c).ownBlock = some j ∨ w.heap.size ≤ j) := fun j hj => by
    rcases hat with e | e
    · left; rw [← e]; exact hj
    · right
      rw [e] at hj
      cases hj
      have := HST.out.size
      omega
  clear hzk
  rw [List.length_append, List.length_singleton] at hap
  obtain ⟨A9, c9, rfl, _, _, _⟩ := own_form (V := []) hap (by simp)
  have HR9 := Lib.hid hap
  clear hap hgr hat
  refine hKK.out _ _ ?_ (fun hHeld => ?_)
  · exact kr
  clear hKK KK
  (try simp only [Act.put, List.setIfInBounds_toArray, List.set_cons_zero, List.set_cons_succ])
  refine wpAnyZ_take (i := 12) (oi := { dst := some 25, op := Op.nilCheck (Operand.tmp 13), type := 0, pos := "store.go:177", after := #[{ on := 0, ground := Ground.data }, { on := 0, ground := Ground.phase }, { on := 1, ground := Ground.phase }, { on := 2, ground := Ground.phase }, { on := 3, ground := Ground.phase }, { on := 4, ground := Ground.phase }, { on := 5, ground := Ground.phase }, { on := 6, ground := Ground.phase }, { on := 7, ground := Ground.phase }, { on := 8, ground := Ground.phase }, { on := 9, ground := Ground.phase }, { on := 10, ground := Ground.phase }, { on := 11, ground := Ground.phase }], guard := none }) (v := ?_) rfl (by kernel_rfl) (fun _ _ _ h => h) (Or.inl ⟨by rfl, ?_⟩) (by assumption) ?_
  rotate_left
  · (intro wz hSw; (try dsimp only at hSw); go_simp; (try with_reducible rfl))
  (try simp only [Act.put, List.setIfInBounds_toArray, List.set_cons_zero, List.set_cons_succ])
  refine wpAnyZ_take (i := 13) (oi := { dst := some 26, op := Op.fieldAddr 127 (Operand.tmp 25) 2, type := 0, pos := "store.go:177", after := #[{ on := 12, ground := Ground.data }, { on := 0, ground := Ground.phase }, { on := 1, ground := Ground.phase }, { on := 2, ground := Ground.phase }, { on := 3, ground := Ground.phase }, { on := 4, ground := Ground.phase }, { on := 5, ground := Ground.phase }, { on := 6, ground := Ground.phase }, { on := 7, ground := Ground.phase }, { on := 8, ground := Ground.phase }, { on := 9, ground := Ground.phase }, { on := 10, ground := Ground.phase }, { on := 11, ground := Ground.phase }], guard := none }) (v := ?_) rfl (by kernel_rfl) (fun _ _ _ h => h) (Or.inl ⟨by rfl, ?_⟩) (by assumption) ?_
  rotate_left
  · (intro wz hSw; (try dsimp only at hSw); go_simp; (try with_reducible rfl))
  (try simp only [Act.put, List.setIfInBounds_toArray, List.set_cons_zero, List.set_cons_succ])
  refine wpAnyZ_ready (rs := [14]) (by kernel_rfl) (by simp) ?_
  refine AllReadyZ.late (o := { dst := none, op := Op.store 23 (Operand.tmp 26) (Operand.tmp 24), type := 0, pos := "store.go:177", after := #[{ on := 13, ground := Ground.data }, { on := 11, ground := Ground.data }, { on := 11, ground := Ground.chain }, { on := 0, ground := Ground.phase }, { on := 1, ground := Ground.phase }, { on := 2, ground := Ground.phase }, { on := 3, ground := Ground.phase }, { on := 4, ground := Ground.phase }, { on := 5, ground := Ground.phase }, { on := 6, ground := Ground.phase }, { on := 7, ground := Ground.phase }, { on := 8, ground := Ground.phase }, { on := 9, ground := Ground.phase }, { on := 10, ground := Ground.phase }, { on := 11, ground := Ground.phase }], guard := none }) rfl (by simp) (fun KK hKK => ?_) AllReadyZ.nil
  have cs3 := OS.out.cell? 3
  have fs3 := OS.out.frozen 3
  have zs := OS.out.lt
  dsimp only [List.getElem?_cons_zero, List.getElem?_cons_succ] at cs3
  go_simp
  clear cs3 fs3 zs
  have HTT := Lib.hid (HST.out.trans (kr.mono fun j e => .inr (.inr e)))
  replace OS := Lib.hid (OS.out.set_ 3 (.slice A9 (ws.length + 1) c9))
  replace OL := Lib.hid (OL.out.far (p := ⟨s, 3, none⟩) (fun e => hsg e.symm) (.slice A9 (ws.length + 1) c9))
  replace HTT := Lib.hid (HTT.out.setCell (p := ⟨s, 3, none⟩) (.inl rfl) (.slice A9 (ws.length + 1) c9))
  have HSN : Hid ((Value.slice A9 (ws.length + 1) c9).ownBlock ≠ some s) := fun e => by
    rcases HAT.out _ e with e | e
    · exact HSW.out.1 e
    · have := HZB.out; omega
  replace HR9 := Lib.hid (ownsRow_setCell_other HR9.out (a := ⟨s, 3, none⟩) (fun e => HSN.out e) (.slice A9 (ws.length + 1) c9))
  generalize (w7.setCell ⟨s, 3, none⟩ (.slice A9 (ws.length + 1) c9)) = w8 at *
  refine hKK.out _ _ ?_
  clear hKK KK
  (try simp only [Act.put, List.setIfInBounds_toArray, List.set_cons_zero, List.set_cons_succ])
  refine wpAnyZ_done (by kernel_rfl) ?_ _
  clear CS0 CS1 CS2 CS3 CB0 CB1 CB2 CB3 CB4 OSr OLr OBr Kr zr hHeld kr
  go_wp2
  go_end0
  obtain ⟨h1, h2⟩ := HS.out.turn (ws' := ws ++ [(⟨61 + k, encS ⟨tu, tc, tb, tz, tn⟩⟩ : Wr)]) HTT.out OS.out OL.out (by rw [List.length_set]; exact HLN.out) (by rw [List.length_append, List.length_singleton]; exact HR9.out) HAT.out
  exact ⟨rfl, ⟨_, _, _, _, h1⟩, h2⟩
end Go.Proofs.YtagpimahicgkmaaDoor
