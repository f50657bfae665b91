/- Walk: mailsackref15.Equal, of two indexes that read alike. -/
import Derived.Test.YtjinnkbnllnllaaIxSmall
import Derived.Deep.CutRange
namespace Go.Proofs.Ytjinnkbnllnllaa
open Go.RowKit

theorem Own.put4 {w : World} {g : Nat} {t : TypeId} {x y z u : Value} (h : Own w g t [x, y, z, u]) (a b c d : Value) : Own ((((w.setCell ⟨g, 0, none⟩ a).setCell ⟨g, 1, none⟩ b).setCell ⟨g, 2, none⟩ c).setCell ⟨g, 3, none⟩ d) g t [a, b, c, d] := (((h.set_ 0 a).set_ 1 b).set_ 2 c).set_ 3 d
theorem Own.far4 {w : World} {g h : Nat} {t : TypeId} {cs : List Value} (o : Own w g t cs) (hne : g ≠ h) (a b c d : Value) : Own ((((w.setCell ⟨h, 0, none⟩ a).setCell ⟨h, 1, none⟩ b).setCell ⟨h, 2, none⟩ c).setCell ⟨h, 3, none⟩ d) g t cs :=
  (((o.far (p := ⟨h, 0, none⟩) hne a).far (p := ⟨h, 1, none⟩) hne b).far (p := ⟨h, 2, none⟩) hne c).far (p := ⟨h, 3, none⟩) hne d
theorem Kept.put4 {w w' : World} {h : Nat} (k : Kept w w') (hh : w.heap.size ≤ h) (a b c d : Value) : Kept w ((((w'.setCell ⟨h, 0, none⟩ a).setCell ⟨h, 1, none⟩ b).setCell ⟨h, 2, none⟩ c).setCell ⟨h, 3, none⟩ d) :=
  (((k.setCell (p := ⟨h, 0, none⟩) hh a).setCell (p := ⟨h, 1, none⟩) hh b).setCell (p := ⟨h, 2, none⟩) hh c).setCell (p := ⟨h, 3, none⟩) hh d
def EqMid (wr : World) (bn : ByteArray) (bl bt : Int) (MA MB : Option Addr) (mn mc md : Nat) (v7 v8 : Value) (wx : World) : Prop :=
  ∃ P Q : Nat, v7 = .pointer (some ⟨P, 0, none⟩) ∧ v8 = .pointer (some ⟨Q, 0, none⟩) ∧ Own wx P 43 [.string bn, .int .i64 bl, .int .i64 bt, .slice MA mn mc] ∧ Own wx Q 43 [.string bn, .int .i64 bl, .int .i64 bt, .slice MB mn md] ∧ Kept wr wx

set_option maxRecDepth 100000 in
set_option maxHeartbeats 2000000 in
theorem equal_any (x : Ix) (v u : Value) (w : World) (h : IxAt [] w v x) (g : IxAt [] w u x) :
    Calls Try.prog 14 #[v, u] w fun e w' => e = .returned (.bool true) ∧ Kept w w' := by
  obtain ⟨A, c, A', c', rfl, hc1, hc2, hc3, hc4, hbx, hrow⟩ := h.open_
  obtain ⟨B, e, B', e', rfl, he1, he2, he3, he4, hbx2, hrow2⟩ := g.open_
  have HBX := Lib.hid hbx
  have HROW := Lib.hid hrow
  have HBX2 := Lib.hid hbx2
  have HROW2 := Lib.hid hrow2
  clear hbx hrow h hbx2 hrow2 g
  unfold maxLen at hc2 hc4 he2 he4
  generalize hn : x.boxes.length = n at *
  generalize hm : x.subs.length = m at *
  have HN := Lib.hid hn
  have HM := Lib.hid hm
  clear hn hm
  generalize x.given = gv at *
  go_enter Try.func14, Try.ntmps14
  go_wp2
  go_loopw [5] (fun iv wr => ∃ k : Nat, k ≤ m ∧ iv = .int .i64 k ∧ Own wr w.heap.size 29 [.slice A n c, .slice A' m c', .int .i64 gv] ∧ Own wr (w.heap.size + 1) 29 [.slice B n e, .slice B' m e', .int .i64 gv] ∧ Kept w wr) (fun iv _ => m - (intOf iv).toNat)
  case atStart => exact ⟨0, Nat.zero_le _, rfl, (Own.new w _ [_, _, _]).alloc _, Own.new1 w _ _ [_, _, _], ((Kept.refl w).alloc _).alloc _⟩
  case round =>
    obtain ⟨k, hk, rfl, ha, hb, hkw⟩ := hrel
    have OA := Lib.hid ha
    have OB := Lib.hid hb
    obtain ⟨x1, x2, x3, _, _, _⟩ := ha.three
    obtain ⟨y1, y2, y3, _, _, _⟩ := hb.three
    clear ha hb
    by_cases hlt : k < m
    · have hk' : k < x.subs.length := by rw [HM.out]; exact hlt
      obtain ⟨b, o, rfl, hb, _, hc⟩ := HROW.out.kept hkw (by rw [strs_length]; omega)
      obtain ⟨d, q, rfl, hd, _, hc2⟩ := HROW2.out.kept hkw (by rw [strs_length]; omega)
      have g1 : wr.cell? ⟨b, o + k, none⟩ = some (.string x.subs[k]) := hc _ _ (strs_at hk')
      have g2 : wr.cell? ⟨d, q + k, none⟩ = some (.string x.subs[k]) := hc2 _ _ (strs_at hk')
      clear hc hc2
      generalize x.subs[k] = s at *
      have i0 : (0 : Int) ≤ (k : Int) := by omega
      have i1 : (k : Int) < (m : Int) := by omega
      go_wp2_with fail
      go_quiet (fail)
      go_wp2
      go_roundw
      case rel => exact ⟨k + 1, by omega, by go_num, OA.out, OB.out, hkw.drewN _⟩
      case measure => simp [intOf]; omega
    · have hkm : Hid (k = m) := by show _ = _; omega
      go_wp2_with fail
      go_loopw [6] (fun iv wr => ∃ k : Nat, k ≤ n ∧ iv = .int .i64 k ∧ Own wr w.heap.size 29 [.slice A n c, .slice A' m c', .int .i64 gv] ∧ Own wr (w.heap.size + 1) 29 [.slice B n e, .slice B' m e', .int .i64 gv] ∧ Kept w wr) (fun iv _ => n - (intOf iv).toNat)
      case atStart => exact ⟨0, Nat.zero_le _, rfl, OA.out, OB.out, hkw⟩
      case round =>
        clear x1 x2 x3 y1 y2 y3 OA OB hkw
        obtain ⟨k, hk, rfl, ha, hb, hkw⟩ := hrel
        have OA := Lib.hid ha
        have OB := Lib.hid hb
        obtain ⟨x1, x2, x3, _, _, _⟩ := ha.three
        obtain ⟨y1, y2, y3, _, _, _⟩ := hb.three
        clear ha hb
        by_cases hlt : k < n
        · have hk' : k < x.boxes.length := by rw [HN.out]; exact hlt
          obtain ⟨b, o, mv, rfl, hb, _, hbc⟩ := HBX.out (by omega)
          obtain ⟨d, q, mv2, rfl, hd, _, hbc2⟩ := HBX2.out (by omega)
          obtain ⟨a1, a2, a3, a4, am⟩ := hbc.go hb hkw (Ext.refl _ _) k hk'
          obtain ⟨b1, b2, b3, b4, bm⟩ := hbc2.go hd hkw (Ext.refl _ _) k hk'
          obtain ⟨MA, mc, hmv⟩ := am.form
          obtain ⟨MB, md, hmv2⟩ := bm.form
          rw [hmv] at a4 am
          rw [hmv2] at b4 bm
          have hb0 : b < wr.heap.size := Nat.lt_of_lt_of_le hb hkw.size
          have hd0 : d < wr.heap.size := Nat.lt_of_lt_of_le hd hkw.size
          clear hbc hbc2 hmv hmv2
          generalize x.boxes[k] = bx at *
          obtain ⟨MA', mc', e1, hm1, hm2, hmr⟩ := am
          cases e1
          obtain ⟨MB', md', e2, hn1, hn2, hnr⟩ := bm
          cases e2
          unfold maxLen at hm2 hn2
          have HMR := Lib.hid hmr
          have HNR := Lib.hid hnr
          clear hmr hnr
          obtain ⟨bn, bl, bt, ml⟩ := bx
          simp only at *
          generalize hmn : ml.length = mn at *
          have HMN := Lib.hid hmn
          clear hmn
          have i0 : (0 : Int) ≤ (k : Int) := by omega
          have i1 : (k : Int) < (n : Int) := by omega
          have hza := OA.out.lt
          have hzb := OB.out.lt
          obtain ⟨wo, hwo⟩ : ∃ z, z = wr := ⟨_, rfl⟩
          subst hwo
          go_wp2_with fail
          go_cut [7, 8] from 58 to 67 (fun v7 v8 wx => EqMid wo bn bl bt MA MB mn mc md v7 v8 wx)
          case first =>
            refine wp_region_Z (S := fun W => Kept wo W) (Z := []) (by kernel_rfl) ((Kept.refl wo).drew) (fun hHeld => ?_)
            generalize wo.drew = wd at *
            refine wpAnyZ_take (i := 0) (oi := { dst := some 58, op := Op.fieldAddr 29 (Operand.tmp 2) 0, type := 0, pos := "ref.go:375", after := #[], guard := none }) (v := ?_) rfl (by kernel_rfl) (fun _ _ _ h => h) (Or.inl ⟨by rfl, ?_⟩) (by assumption) ?_
            rotate_left
            · (intro wz hSw; obtain ⟨x1, x2, x3, _, _, _⟩ := (OA.out.kept hSw).three; obtain ⟨y1, y2, y3, _, _, _⟩ := (OB.out.kept hSw).three; have a1' := (hSw.cell (p := ⟨b, o + k * 4, none⟩) hb0).trans a1; have a2' := (hSw.cell (p := ⟨b, o + k * 4 + 1, none⟩) hb0).trans a2; have a3' := (hSw.cell (p := ⟨b, o + k * 4 + 2, none⟩) hb0).trans a3; have a4' := (hSw.cell (p := ⟨b, o + k * 4 + 3, none⟩) hb0).trans a4; have b1' := (hSw.cell (p := ⟨d, q + k * 4, none⟩) hd0).trans b1; have b2' := (hSw.cell (p := ⟨d, q + k * 4 + 1, none⟩) hd0).trans b2; have b3' := (hSw.cell (p := ⟨d, q + k * 4 + 2, none⟩) hd0).trans b3; have b4' := (hSw.cell (p := ⟨d, q + k * 4 + 3, none⟩) hd0).trans b4; go_simp; (try with_reducible rfl))
            (try simp only [Act.put, List.setIfInBounds_toArray, List.set_cons_zero, List.set_cons_succ])
            refine wpAnyZ_take (i := 1) (oi := { dst := some 59, op := Op.load 27 (Operand.tmp 58), type := 27, pos := "ref.go:375", after := #[{ on := 0, ground := Ground.data }], guard := none }) (v := ?_) rfl (by kernel_rfl) (fun _ _ _ h => h) (Or.inl ⟨by rfl, ?_⟩) (by assumption) ?_
            rotate_left
            · (intro wz hSw; obtain ⟨x1, x2, x3, _, _, _⟩ := (OA.out.kept hSw).three; obtain ⟨y1, y2, y3, _, _, _⟩ := (OB.out.kept hSw).three; have a1' := (hSw.cell (p := ⟨b, o + k * 4, none⟩) hb0).trans a1; have a2' := (hSw.cell (p := ⟨b, o + k * 4 + 1, none⟩) hb0).trans a2; have a3' := (hSw.cell (p := ⟨b, o + k * 4 + 2, none⟩) hb0).trans a3; have a4' := (hSw.cell (p := ⟨b, o + k * 4 + 3, none⟩) hb0).trans a4; have b1' := (hSw.cell (p := ⟨d, q + k * 4, none⟩) hd0).trans b1; have b2' := (hSw.cell (p := ⟨d, q + k * 4 + 1, none⟩) hd0).trans b2; have b3' := (hSw.cell (p := ⟨d, q + k * 4 + 2, none⟩) hd0).trans b3; have b4' := (hSw.cell (p := ⟨d, q + k * 4 + 3, none⟩) hd0).trans b4; go_simp; (try with_reducible rfl))
            (try simp only [Act.put, List.setIfInBounds_toArray, List.set_cons_zero, List.set_cons_succ])
            refine wpAnyZ_take (i := 2) (oi := { dst := some 60, op := Op.move (Operand.tmp 6), type := 3, pos := "ref.go:375", after := #[], guard := none }) (v := ?_) rfl (by kernel_rfl) (fun _ _ _ h => h) (Or.inl ⟨by rfl, ?_⟩) (by assumption) ?_
            rotate_left
            · (intro wz hSw; obtain ⟨x1, x2, x3, _, _, _⟩ := (OA.out.kept hSw).three; obtain ⟨y1, y2, y3, _, _, _⟩ := (OB.out.kept hSw).three; have a1' := (hSw.cell (p := ⟨b, o + k * 4, none⟩) hb0).trans a1; have a2' := (hSw.cell (p := ⟨b, o + k * 4 + 1, none⟩) hb0).trans a2; have a3' := (hSw.cell (p := ⟨b, o + k * 4 + 2, none⟩) hb0).trans a3; have a4' := (hSw.cell (p := ⟨b, o + k * 4 + 3, none⟩) hb0).trans a4; have b1' := (hSw.cell (p := ⟨d, q + k * 4, none⟩) hd0).trans b1; have b2' := (hSw.cell (p := ⟨d, q + k * 4 + 1, none⟩) hd0).trans b2; have b3' := (hSw.cell (p := ⟨d, q + k * 4 + 2, none⟩) hd0).trans b3; have b4' := (hSw.cell (p := ⟨d, q + k * 4 + 3, none⟩) hd0).trans b4; go_simp; (try with_reducible rfl))
            (try simp only [Act.put, List.setIfInBounds_toArray, List.set_cons_zero, List.set_cons_succ])
            refine wpAnyZ_take (i := 3) (oi := { dst := some 61, op := Op.indexAddr 27 (Operand.tmp 59) (Operand.tmp 60), type := 0, pos := "ref.go:375", after := #[{ on := 1, ground := Ground.data }, { on := 2, ground := Ground.data }], guard := none }) (v := ?_) rfl (by kernel_rfl) (fun _ _ _ h => h) (Or.inl ⟨by rfl, ?_⟩) (by assumption) ?_
            rotate_left
            · (intro wz hSw; obtain ⟨x1, x2, x3, _, _, _⟩ := (OA.out.kept hSw).three; obtain ⟨y1, y2, y3, _, _, _⟩ := (OB.out.kept hSw).three; have a1' := (hSw.cell (p := ⟨b, o + k * 4, none⟩) hb0).trans a1; have a2' := (hSw.cell (p := ⟨b, o + k * 4 + 1, none⟩) hb0).trans a2; have a3' := (hSw.cell (p := ⟨b, o + k * 4 + 2, none⟩) hb0).trans a3; have a4' := (hSw.cell (p := ⟨b, o + k * 4 + 3, none⟩) hb0).trans a4; have b1' := (hSw.cell (p := ⟨d, q + k * 4, none⟩) hd0).trans b1; have b2' := (hSw.cell (p := ⟨d, q + k * 4 + 1, none⟩) hd0).trans b2; have b3' := (hSw.cell (p := ⟨d, q + k * 4 + 2, none⟩) hd0).trans b3; have b4' := (hSw.cell (p := ⟨d, q + k * 4 + 3, none⟩) hd0).trans b4; go_simp; (try with_reducible rfl))
            (try simp only [Act.put, List.setIfInBounds_toArray, List.set_cons_zero, List.set_cons_succ])
            refine wpAnyZ_take (i := 4) (oi := { dst := some 62, op := Op.load 43 (Operand.tmp 61), type := 43, pos := "ref.go:375", after := #[{ on := 3, ground := Ground.data }], guard := none }) (v := ?_) rfl (by kernel_rfl) (fun _ _ _ h => h) (Or.inl ⟨by rfl, ?_⟩) (by assumption) ?_
            rotate_left
            · (intro wz hSw; obtain ⟨x1, x2, x3, _, _, _⟩ := (OA.out.kept hSw).three; obtain ⟨y1, y2, y3, _, _, _⟩ := (OB.out.kept hSw).three; have a1' := (hSw.cell (p := ⟨b, o + k * 4, none⟩) hb0).trans a1; have a2' := (hSw.cell (p := ⟨b, o + k * 4 + 1, none⟩) hb0).trans a2; have a3' := (hSw.cell (p := ⟨b, o + k * 4 + 2, none⟩) hb0).trans a3; have a4' := (hSw.cell (p := ⟨b, o + k * 4 + 3, none⟩) hb0).trans a4; have b1' := (hSw.cell (p := ⟨d, q + k * 4, none⟩) hd0).trans b1; have b2' := (hSw.cell (p := ⟨d, q + k * 4 + 1, none⟩) hd0).trans b2; have b3' := (hSw.cell (p := ⟨d, q + k * 4 + 2, none⟩) hd0).trans b3; have b4' := (hSw.cell (p := ⟨d, q + k * 4 + 3, none⟩) hd0).trans b4; go_simp; (try with_reducible rfl))
            (try simp only [Act.put, List.setIfInBounds_toArray, List.set_cons_zero, List.set_cons_succ])
            refine wpAnyZ_take (i := 5) (oi := { dst := some 63, op := Op.fieldAddr 29 (Operand.tmp 3) 0, type := 0, pos := "ref.go:375", after := #[{ on := 12, ground := Ground.gcOnly Departure.lateStores }], guard := none }) (v := ?_) rfl (by kernel_rfl) (fun _ _ _ h => h) (Or.inl ⟨by rfl, ?_⟩) (by assumption) ?_
            rotate_left
            · (intro wz hSw; obtain ⟨x1, x2, x3, _, _, _⟩ := (OA.out.kept hSw).three; obtain ⟨y1, y2, y3, _, _, _⟩ := (OB.out.kept hSw).three; have a1' := (hSw.cell (p := ⟨b, o + k * 4, none⟩) hb0).trans a1; have a2' := (hSw.cell (p := ⟨b, o + k * 4 + 1, none⟩) hb0).trans a2; have a3' := (hSw.cell (p := ⟨b, o + k * 4 + 2, none⟩) hb0).trans a3; have a4' := (hSw.cell (p := ⟨b, o + k * 4 + 3, none⟩) hb0).trans a4; have b1' := (hSw.cell (p := ⟨d, q + k * 4, none⟩) hd0).trans b1; have b2' := (hSw.cell (p := ⟨d, q + k * 4 + 1, none⟩) hd0).trans b2; have b3' := (hSw.cell (p := ⟨d, q + k * 4 + 2, none⟩) hd0).trans b3; have b4' := (hSw.cell (p := ⟨d, q + k * 4 + 3, none⟩) hd0).trans b4; go_simp; (try with_reducible rfl))
            (try simp only [Act.put, List.setIfInBounds_toArray, List.set_cons_zero, List.set_cons_succ])
            refine wpAnyZ_take (i := 6) (oi := { dst := some 64, op := Op.load 27 (Operand.tmp 63), type := 27, pos := "ref.go:375", after := #[{ on := 5, ground := Ground.data }, { on := 12, ground := Ground.gcOnly Departure.lateStores }], guard := none }) (v := ?_) rfl (by kernel_rfl) (fun _ _ _ h => h) (Or.inl ⟨by rfl, ?_⟩) (by assumption) ?_
            rotate_left
            · (intro wz hSw; obtain ⟨x1, x2, x3, _, _, _⟩ := (OA.out.kept hSw).three; obtain ⟨y1, y2, y3, _, _, _⟩ := (OB.out.kept hSw).three; have a1' := (hSw.cell (p := ⟨b, o + k * 4, none⟩) hb0).trans a1; have a2' := (hSw.cell (p := ⟨b, o + k * 4 + 1, none⟩) hb0).trans a2; have a3' := (hSw.cell (p := ⟨b, o + k * 4 + 2, none⟩) hb0).trans a3; have a4' := (hSw.cell (p := ⟨b, o + k * 4 + 3, none⟩) hb0).trans a4; have b1' := (hSw.cell (p := ⟨d, q + k * 4, none⟩) hd0).trans b1; have b2' := (hSw.cell (p := ⟨d, q + k * 4 + 1, none⟩) hd0).trans b2; have b3' := (hSw.cell (p := ⟨d, q + k * 4 + 2, none⟩) hd0).trans b3; have b4' := (hSw.cell (p := ⟨d, q + k * 4 + 3, none⟩) hd0).trans b4; go_simp; (try with_reducible rfl))
            (try simp only [Act.put, List.setIfInBounds_toArray, List.set_cons_zero, List.set_cons_succ])
            refine wpAnyZ_take (i := 7) (oi := { dst := some 65, op := Op.move (Operand.tmp 6), type := 3, pos := "ref.go:375", after := #[{ on := 12, ground := Ground.gcOnly Departure.lateStores }], guard := none }) (v := ?_) rfl (by kernel_rfl) (fun _ _ _ h => h) (Or.inl ⟨by rfl, ?_⟩) (by assumption) ?_
            rotate_left
            · (intro wz hSw; obtain ⟨x1, x2, x3, _, _, _⟩ := (OA.out.kept hSw).three; obtain ⟨y1, y2, y3, _, _, _⟩ := (OB.out.kept hSw).three; have a1' := (hSw.cell (p := ⟨b, o + k * 4, none⟩) hb0).trans a1; have a2' := (hSw.cell (p := ⟨b, o + k * 4 + 1, none⟩) hb0).trans a2; have a3' := (hSw.cell (p := ⟨b, o + k * 4 + 2, none⟩) hb0).trans a3; have a4' := (hSw.cell (p := ⟨b, o + k * 4 + 3, none⟩) hb0).trans a4; have b1' := (hSw.cell (p := ⟨d, q + k * 4, none⟩) hd0).trans b1; have b2' := (hSw.cell (p := ⟨d, q + k * 4 + 1, none⟩) hd0).trans b2; have b3' := (hSw.cell (p := ⟨d, q + k * 4 + 2, none⟩) hd0).trans b3; have b4' := (hSw.cell (p := ⟨d, q + k * 4 + 3, none⟩) hd0).trans b4; go_simp; (try with_reducible rfl))
            (try simp only [Act.put, List.setIfInBounds_toArray, List.set_cons_zero, List.set_cons_succ])
            refine wpAnyZ_take (i := 8) (oi := { dst := some 66, op := Op.indexAddr 27 (Operand.tmp 64) (Operand.tmp 65), type := 0, pos := "ref.go:375", after := #[{ on := 6, ground := Ground.data }, { on := 7, ground := Ground.data }, { on := 12, ground := Ground.gcOnly Departure.lateStores }], guard := none }) (v := ?_) rfl (by kernel_rfl) (fun _ _ _ h => h) (Or.inl ⟨by rfl, ?_⟩) (by assumption) ?_
            rotate_left
            · (intro wz hSw; obtain ⟨x1, x2, x3, _, _, _⟩ := (OA.out.kept hSw).three; obtain ⟨y1, y2, y3, _, _, _⟩ := (OB.out.kept hSw).three; have a1' := (hSw.cell (p := ⟨b, o + k * 4, none⟩) hb0).trans a1; have a2' := (hSw.cell (p := ⟨b, o + k * 4 + 1, none⟩) hb0).trans a2; have a3' := (hSw.cell (p := ⟨b, o + k * 4 + 2, none⟩) hb0).trans a3; have a4' := (hSw.cell (p := ⟨b, o + k * 4 + 3, none⟩) hb0).trans a4; have b1' := (hSw.cell (p := ⟨d, q + k * 4, none⟩) hd0).trans b1; have b2' := (hSw.cell (p := ⟨d, q + k * 4 + 1, none⟩) hd0).trans b2; have b3' := (hSw.cell (p := ⟨d, q + k * 4 + 2, none⟩) hd0).trans b3; have b4' := (hSw.cell (p := ⟨d, q + k * 4 + 3, none⟩) hd0).trans b4; go_simp; (try with_reducible rfl))
            (try simp only [Act.put, List.setIfInBounds_toArray, List.set_cons_zero, List.set_cons_succ])
            refine wpAnyZ_take (i := 9) (oi := { dst := some 67, op := Op.load 43 (Operand.tmp 66), type := 43, pos := "ref.go:375", after := #[{ on := 8, ground := Ground.data }, { on := 12, ground := Ground.gcOnly Departure.lateStores }], guard := none }) (v := ?_) rfl (by kernel_rfl) (fun _ _ _ h => h) (Or.inl ⟨by rfl, ?_⟩) (by assumption) ?_
            rotate_left
            · (intro wz hSw; obtain ⟨x1, x2, x3, _, _, _⟩ := (OA.out.kept hSw).three; obtain ⟨y1, y2, y3, _, _, _⟩ := (OB.out.kept hSw).three; have a1' := (hSw.cell (p := ⟨b, o + k * 4, none⟩) hb0).trans a1; have a2' := (hSw.cell (p := ⟨b, o + k * 4 + 1, none⟩) hb0).trans a2; have a3' := (hSw.cell (p := ⟨b, o + k * 4 + 2, none⟩) hb0).trans a3; have a4' := (hSw.cell (p := ⟨b, o + k * 4 + 3, none⟩) hb0).trans a4; have b1' := (hSw.cell (p := ⟨d, q + k * 4, none⟩) hd0).trans b1; have b2' := (hSw.cell (p := ⟨d, q + k * 4 + 1, none⟩) hd0).trans b2; have b3' := (hSw.cell (p := ⟨d, q + k * 4 + 2, none⟩) hd0).trans b3; have b4' := (hSw.cell (p := ⟨d, q + k * 4 + 3, none⟩) hd0).trans b4; go_simp; (try with_reducible rfl))
            (try simp only [Act.put, List.setIfInBounds_toArray, List.set_cons_zero, List.set_cons_succ])
            refine wpAnyZ_ready (rs := [10, 11]) (by kernel_rfl) (by simp) ?_
            refine AllReadyZ.cons (o := { dst := some 7, op := Op.alloc 43, type := 0, pos := "ref.go:375", after := #[], guard := none }) rfl (fun K hK => ?_) ?_
            · skip
              have h0 := hHeld
              go_simp
              refine hK.out _ _ ?_ (fun hHeld => ?_)
              · exact (h0.alloc _)
              clear hK K
              (try simp only [Act.put, List.setIfInBounds_toArray, List.set_cons_zero, List.set_cons_succ])
              refine wpAnyZ_ready (rs := [11]) (by kernel_rfl) (by simp) ?_
              refine AllReadyZ.cons (o := { dst := some 8, op := Op.alloc 43, type := 0, pos := "ref.go:375", after := #[], guard := none }) rfl (fun K hK => ?_) AllReadyZ.nil
              go_simp
              refine hK.out _ _ ?_ (fun hHeld => ?_)
              · exact ((h0.alloc _).alloc _)
              clear hK K
              (try simp only [Act.put, List.setIfInBounds_toArray, List.set_cons_zero, List.set_cons_succ])
              refine wpAnyZ_ready (rs := [12]) (by kernel_rfl) (by simp) ?_
              refine AllReadyZ.cons (o := { dst := none, op := Op.store 43 (Operand.tmp 7) (Operand.tmp 62), type := 0, pos := "ref.go:375", after := #[{ on := 10, ground := Ground.data }, { on := 4, ground := Ground.data }, { on := 0, ground := Ground.phase }, { on := 1, ground := Ground.phase }, { on := 2, ground := Ground.phase }, { on := 3, ground := Ground.phase }, { on := 4, ground := Ground.phase }, { on := 5, ground := Ground.textOnly Departure.lateStores }, { on := 6, ground := Ground.textOnly Departure.lateStores }, { on := 7, ground := Ground.textOnly Departure.lateStores }, { on := 8, ground := Ground.textOnly Departure.lateStores }, { on := 9, ground := Ground.textOnly Departure.lateStores }, { on := 10, ground := Ground.phase }, { on := 11, ground := Ground.phase }], guard := none }) rfl (fun K hK => ?_) AllReadyZ.nil
              go_simp
              refine hK.out _ _ ?_ (fun hHeld => ?_)
              · exact ((h0.alloc _).alloc _)
              clear hK K
              (try simp only [Act.put, List.setIfInBounds_toArray, List.set_cons_zero, List.set_cons_succ])
              refine wpAnyZ_ready (rs := [13]) (by kernel_rfl) (by simp) ?_
              refine AllReadyZ.cons (o := { dst := none, op := Op.store 43 (Operand.tmp 8) (Operand.tmp 67), type := 0, pos := "ref.go:375", after := #[{ on := 11, ground := Ground.data }, { on := 9, ground := Ground.data }, { on := 12, ground := Ground.chain }, { on := 0, ground := Ground.phase }, { on := 1, ground := Ground.phase }, { on := 2, ground := Ground.phase }, { on := 3, ground := Ground.phase }, { on := 4, ground := Ground.phase }, { on := 5, ground := Ground.phase }, { on := 6, ground := Ground.phase }, { on := 7, ground := Ground.phase }, { on := 8, ground := Ground.phase }, { on := 9, ground := Ground.phase }, { on := 10, ground := Ground.phase }, { on := 11, ground := Ground.phase }, { on := 12, ground := Ground.phase }], guard := none }) rfl (fun K hK => ?_) AllReadyZ.nil
              go_simp
              refine hK.out _ _ ?_ (fun hHeld => ?_)
              · exact ((h0.alloc _).alloc _)
              clear hK K
              (try simp only [Act.put, List.setIfInBounds_toArray, List.set_cons_zero, List.set_cons_succ])
              refine wpAnyZ_done (by kernel_rfl) ?_ _
              go_wp2_with fail
              go_meet
              case rel => exact ⟨_, _, rfl, rfl, ((Own.new wd _ [_, _, _, _]).alloc _), (Own.new1 wd _ _ [_, _, _, _]), (h0.alloc _).alloc _⟩
            refine AllReadyZ.cons (o := { dst := some 8, op := Op.alloc 43, type := 0, pos := "ref.go:375", after := #[], guard := none }) rfl (fun K hK => ?_) AllReadyZ.nil
            have h0 := hHeld
            go_simp
            refine hK.out _ _ ?_ (fun hHeld => ?_)
            · exact (h0.alloc _)
            clear hK K
            (try simp only [Act.put, List.setIfInBounds_toArray, List.set_cons_zero, List.set_cons_succ])
            refine wpAnyZ_ready (rs := [10]) (by kernel_rfl) (by simp) ?_
            refine AllReadyZ.cons (o := { dst := some 7, op := Op.alloc 43, type := 0, pos := "ref.go:375", after := #[], guard := none }) rfl (fun K hK => ?_) AllReadyZ.nil
            go_simp
            refine hK.out _ _ ?_ (fun hHeld => ?_)
            · exact ((h0.alloc _).alloc _)
            clear hK K
            (try simp only [Act.put, List.setIfInBounds_toArray, List.set_cons_zero, List.set_cons_succ])
            refine wpAnyZ_ready (rs := [12]) (by kernel_rfl) (by simp) ?_
            refine AllReadyZ.cons (o := { dst := none, op := Op.store 43 (Operand.tmp 7) (Operand.tmp 62), type := 0, pos := "ref.go:375", after := #[{ on := 10, ground := Ground.data }, { on := 4, ground := Ground.data }, { on := 0, ground := Ground.phase }, { on := 1, ground := Ground.phase }, { on := 2, ground := Ground.phase }, { on := 3, ground := Ground.phase }, { on := 4, ground := Ground.phase }, { on := 5, ground := Ground.textOnly Departure.lateStores }, { on := 6, ground := Ground.textOnly Departure.lateStores }, { on := 7, ground := Ground.textOnly Departure.lateStores }, { on := 8, ground := Ground.textOnly Departure.lateStores }, { on := 9, ground := Ground.textOnly Departure.lateStores }, { on := 10, ground := Ground.phase }, { on := 11, ground := Ground.phase }], guard := none }) rfl (fun K hK => ?_) AllReadyZ.nil
            go_simp
            refine hK.out _ _ ?_ (fun hHeld => ?_)
            · exact ((h0.alloc _).alloc _)
            clear hK K
            (try simp only [Act.put, List.setIfInBounds_toArray, List.set_cons_zero, List.set_cons_succ])
            refine wpAnyZ_ready (rs := [13]) (by kernel_rfl) (by simp) ?_
            refine AllReadyZ.cons (o := { dst := none, op := Op.store 43 (Operand.tmp 8) (Operand.tmp 67), type := 0, pos := "ref.go:375", after := #[{ on := 11, ground := Ground.data }, { on := 9, ground := Ground.data }, { on := 12, ground := Ground.chain }, { on := 0, ground := Ground.phase }, { on := 1, ground := Ground.phase }, { on := 2, ground := Ground.phase }, { on := 3, ground := Ground.phase }, { on := 4, ground := Ground.phase }, { on := 5, ground := Ground.phase }, { on := 6, ground := Ground.phase }, { on := 7, ground := Ground.phase }, { on := 8, ground := Ground.phase }, { on := 9, ground := Ground.phase }, { on := 10, ground := Ground.phase }, { on := 11, ground := Ground.phase }, { on := 12, ground := Ground.phase }], guard := none }) rfl (fun K hK => ?_) AllReadyZ.nil
            go_simp
            refine hK.out _ _ ?_ (fun hHeld => ?_)
            · exact ((h0.alloc _).alloc _)
            clear hK K
            (try simp only [Act.put, List.setIfInBounds_toArray, List.set_cons_zero, List.set_cons_succ])
            refine wpAnyZ_done (by kernel_rfl) ?_ _
            go_wp2_with fail
            go_meet
            case rel => exact ⟨_, _, rfl, rfl, (Own.new1 wd _ _ [_, _, _, _]), ((Own.new wd _ [_, _, _, _]).alloc _), (h0.alloc _).alloc _⟩
          case rest =>
            obtain ⟨P, Q, rfl, rfl, hp, hq, hkx⟩ := hcut
            have OP := Lib.hid hp
            have OQ := Lib.hid hq
            obtain ⟨p1, p2, p3, p4⟩ := hp.four'
            obtain ⟨q1, q2, q3, q4⟩ := hq.four'
            clear hp hq x1 x2 x3 y1 y2 y3 a1 a2 a3 a4 b1 b2 b3 b4
            go_wp2
            go_loopw [9] (fun iv wr => ∃ j : Nat, j ≤ mn ∧ iv = .int .i64 j ∧ Own wr P 43 [.string bn, .int .i64 bl, .int .i64 bt, .slice MA mn mc] ∧ Own wr Q 43 [.string bn, .int .i64 bl, .int .i64 bt, .slice MB mn md] ∧ Kept wo wr) (fun iv _ => mn - (intOf iv).toNat)
            case atStart => exact ⟨0, Nat.zero_le _, rfl, OP.out, OQ.out, hkx⟩
            case round =>
              clear p1 p2 p3 p4 q1 q2 q3 q4 OP OQ hkx
              obtain ⟨j, hj, rfl, hp, hq, hkx⟩ := hrel
              have OP := Lib.hid hp
              have OQ := Lib.hid hq
              obtain ⟨p1, p2, p3, p4⟩ := hp.four'
              obtain ⟨q1, q2, q3, q4⟩ := hq.four'
              clear hp hq
              by_cases hjl : j < mn
              · have hj' : j < ml.length := by rw [HMN.out]; exact hjl
                obtain ⟨b', o', rfl, hb', _, hc'⟩ := HMR.out.kept hkx (by rw [mls_length, HMN.out]; omega)
                obtain ⟨d', q', rfl, hd', _, hc2'⟩ := HNR.out.kept hkx (by rw [mls_length, HMN.out]; omega)
                obtain ⟨z1, z2, z3, z4⟩ := mls_at hj'
                have m1 : wr.cell? ⟨b', o' + j * 4, none⟩ = _ := hc' _ _ z1
                have m2 : wr.cell? ⟨b', o' + j * 4 + 1, none⟩ = _ := hc' _ _ z2
                have m3 : wr.cell? ⟨b', o' + j * 4 + 2, none⟩ = _ := hc' _ _ z3
                have m4 : wr.cell? ⟨b', o' + j * 4 + 3, none⟩ = _ := hc' _ _ z4
                have n1 : wr.cell? ⟨d', q' + j * 4, none⟩ = _ := hc2' _ _ z1
                have n2 : wr.cell? ⟨d', q' + j * 4 + 1, none⟩ = _ := hc2' _ _ z2
                have n3 : wr.cell? ⟨d', q' + j * 4 + 2, none⟩ = _ := hc2' _ _ z3
                have n4 : wr.cell? ⟨d', q' + j * 4 + 3, none⟩ = _ := hc2' _ _ z4
                clear hc' hc2' z1 z2 z3 z4
                generalize ml[j] = mm at *
                obtain ⟨u1, u2, u3, u4⟩ := mm
                simp only at m1 m2 m3 m4 n1 n2 n3 n4
                have j0 : (0 : Int) ≤ (j : Int) := by omega
                have j1 : (j : Int) < (mn : Int) := by omega
                go_wp2_with fail
                go_quiet (fail)
                go_wp2
                go_roundw
                case rel => exact ⟨j + 1, by omega, by go_num, OP.out, OQ.out, hkx.drewN _⟩
                case measure => simp [intOf]; omega
              · have hkm : Hid (j = mn) := by show _ = _; omega
                go_wp2
                go_roundw
                case rel => exact ⟨k + 1, by omega, by go_num, OA.out.kept hkx, OB.out.kept hkx, hkw.trans hkx⟩
                case measure => simp [intOf]; omega
        · obtain rfl : k = n := by omega
          go_wp2
          go_ret
          exact ⟨rfl, hkw⟩
end Go.Proofs.Ytjinnkbnllnllaa
