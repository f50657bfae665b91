/- Walk: wal.Plan. -/
import Derived.Test.YtagpimahicgkmaaDoorMc
import Derived.Test.YtagpimahicgkmaaDoorMa
namespace Go.Proofs.YtagpimahicgkmaaDoor
open Go.RowKit

theorem ret_plan {r : Value} {n n' : Int} (h : n = n') : Ending.returned (.tuple #[r, .int .i64 n]) = .returned (.tuple #[r, .int .i64 n']) := by rw [h]
theorem Tryd.infoOp : (Tryd.prog.info? 40).map (fun i => (i.zero, i.size, i.bytes)) = some (some (.agg #[.bool false, .int .i64 0, .string .empty]), 3, 32) := by kernel_rfl
theorem run_mkOps (n : Nat) (hn : n ≤ 1000) : ∃ cs : Array Value, cs.size = (3 * n + 6) * 3 ∧ ∀ W : World, (Instr.makeSlice 33 (.int .i64 0) (.int .i64 (3 * (n : Int) + 6))).run Tryd.prog W =
    .ok (.slice (some ⟨W.heap.size, 0, none⟩) 0 (3 * n + 6)) (W.alloc (.cells cs 40)) := by
  obtain ⟨i, hi, hz, hs, hb⟩ := info_parts Tryd.infoOp
  refine ⟨madeCells #[.bool false, .int .i64 0, .string .empty] ((3 * n + 6) * 3), size_madeCells _ _, fun W => ?_⟩
  have := run_make (P := Tryd.prog) W 33 40 i _ Tryd.underlying33 hi hz .i64 .i64 0 (3 * (n : Int) + 6) (by omega) (by omega) (by rw [hb]; omega) (by omega)
  rw [this, hs]
  have e : (3 * (n : Int) + 6).toNat = 3 * n + 6 := by omega
  rw [e]; rfl
theorem row_same {w w' : World} {base g : Nat} {e : TypeId} {size n m c : Nat} {xs : List Value} (h : w.ownsRow base e size (.slice (some ⟨g, 0, none⟩) m c) n xs) (hk : w'.heap[g]? = w.heap[g]?) : w'.ownsRow base e size (.slice (some ⟨g, 0, none⟩) m c) n xs := by
  refine ⟨h.1, ?_⟩
  rcases h.2 with ⟨hv, _⟩ | ⟨g', cap, cur, hv, hg, hh, rest⟩
  · cases hv
  · refine .inr ⟨g', cap, cur, hv, hg, ?_, rest⟩
    have : g' = g := by injection hv with h1; injection h1 with h1; injection h1 with h1; exact h1.symm
    rw [this] at hh ⊢
    rw [hk]; exact hh
def planL (d : Dk) (l : List Wr) : List WOp := if planErr d l = 0 then planOps l else []
theorem planL_no {d : Dk} {l : List Wr} {n : Int} (h : planErr d l = n) (hn : n ≠ 0) : planL d l = [] := by unfold planL; rw [h, if_neg hn]
theorem planL_yes {d : Dk} {l : List Wr} (h : planErr d l = 0) : planL d l = planOps l := by unfold planL; rw [if_pos h]
theorem planErr_bad {d : Dk} {l : List Wr} {i : Nat} (hlt : i < l.length) (h : okW d l[i] = false) : planErr d l = 1 := by
  unfold planErr
  split
  · rfl
  · rw [if_pos (all_not _ _ _ hlt h)]
theorem opsAt_nil (V : List Nat) (w : World) : OpsAt V w (.slice none 0 0) [] := ⟨_, _, rfl, Nat.le_refl _, Nat.zero_le _, Row.nil _ _ _⟩
theorem allTo_le {l : List Wr} (h : ∀ x ∈ l, x.data.size = 64) : ∀ k, (allTo l k).length ≤ 128 * k
  | 0 => Nat.le_refl _
  | k + 1 => by
    have ih := allTo_le h k
    have h1 : (atW l k).data.data.toList.length ≤ 64 := by
      rcases Nat.lt_or_ge k l.length with hk | hk
      · have e : (atW l k).data.size = 64 := h _ (by unfold atW; rw [List.getD_eq_getElem?_getD, List.getElem?_eq_getElem hk]; exact List.getElem_mem hk)
        rw [Array.length_toList]; exact Nat.le_of_eq e
      · have e : (atW l k) = ⟨0, ⟨#[]⟩⟩ := by unfold atW; rw [List.getD_eq_getElem?_getD, List.getElem?_eq_none hk]; rfl
        rw [e]; exact Nat.zero_le _
    have h2 : (dst (atW l k).at_.toNat).data.toList.length = 64 := by rw [Array.length_toList]; exact dst_size _
    rw [allTo, List.length_append, List.length_append, h2]; omega
def wop' (x : Wr) : WOp := ⟨false, x⟩
set_option maxRecDepth 100000 in
set_option maxHeartbeats 4000000 in
theorem plan_any (V : List Nat) (d : Dk) (l : List Wr) (v u : Value) (w : World) (ht : Tabs w) (h : DkAt V w v d) (hu : WrsAt V w u l) (hV : Old V w) :
    Calls Tryd.prog 14 #[v, u] w fun e w' => ∃ r, e = .returned (.tuple #[r, .int .i64 (planErr d l)]) ∧ OpsAt V w' r (planL d l) ∧ Kept w w' := by
  have H := Lib.hid h
  have HT := Lib.hid ht
  have HV := Lib.hid hV
  obtain ⟨_, _, rfl, ⟨A, c, rfl, hl, hm, hr⟩, ⟨A', c', rfl, hl', hm', hr'⟩⟩ := h
  obtain ⟨A2, c2, rfl, hl2, hm2, hr2⟩ := hu
  unfold maxLen at hm hm' hm2
  have HR2 := Lib.hid hr2
  clear hr hr' hr2 ht hV
  have K : Kept w (w.alloc (.cells #[.slice A d.sec.length c, .slice A' d.cache.length c'] 25)) := (Kept.refl w).alloc _
  have OD : Hid (Own (w.alloc (.cells #[.slice A d.sec.length c, .slice A' d.cache.length c'] 25)) w.heap.size 25 [.slice A d.sec.length c, .slice A' d.cache.length c']) := Own.new w _ _
  have HU : Hid (∀ w', Kept w w' → Calls Tryd.prog 42 #[.agg #[.slice A d.sec.length c, .slice A' d.cache.length c']] w' fun e w1 => e = .returned (.bool (suitsB d)) ∧ Kept w' w1) := fun w' k => suits_any V d _ w' (H.out.go k (Ext.refl _ _))
  by_cases hs : suitsB d = true
  · by_cases h0 : l.length = 0
    · have HE : Hid (planErr d l = 1) := by show _ = _; unfold planErr; rw [if_pos (.inr h0)]
      have h0' : (l.length : Int) = 0 := by omega
      go_enter Tryd.func14, Tryd.ntmps14
      go_wp2_with fail
      refine (HU.out _ K).mono ?_
      rintro e w1 ⟨rfl, hk⟩
      go_wp2
      go_ret2
      exact ⟨_, by rw [HE.out]; rfl, by rw [planL_no HE.out (by decide)]; exact opsAt_nil _ _, K.trans hk⟩
    · have h0' : ¬ (l.length : Int) = 0 := by omega
      go_enter Tryd.func14, Tryd.ntmps14
      go_wp2_with fail
      refine (HU.out _ K).mono ?_
      rintro e w1 ⟨rfl, hk⟩
      replace K := K.trans hk
      replace OD := Lib.hid (OD.out.kept hk)
      clear hk
      go_wp2
      go_loopw [25] (fun iv wq => ∃ i : Nat, i ≤ l.length ∧ iv = .int .i64 i ∧ Hid ((l.take i).all (okW d) = true) ∧ Own wq w.heap.size 25 [.slice A d.sec.length c, .slice A' d.cache.length c'] ∧ Kept w wq) (fun iv _ => l.length - (intOf iv).toNat)
      case atStart => exact ⟨0, Nat.zero_le _, rfl, rfl, OD.out, K⟩
      case round =>
        clear OD K
        obtain ⟨i, hi, rfl, HA, od, K⟩ := hrel
        have OD := Lib.hid od
        clear od
        by_cases hlt : i < l.length
        · obtain ⟨b, o, rfl, hb, _, hc⟩ := HR2.out (by rw [wrs_length]; omega)
          have g1 : wr.cell? ⟨b, o + i * 2, none⟩ = some (.int .i64 l[i].at_) := (K.cell hb).trans (hc _ _ (wrs_at hlt).1)
          have g2 : wr.cell? ⟨b, o + i * 2 + 1, none⟩ = some (.string l[i].data) := (K.cell (p := ⟨b, _, none⟩) hb).trans (hc _ _ (wrs_at hlt).2)
          have g3 : wr.cell? ⟨w.heap.size, 0, none⟩ = some (.slice A d.sec.length c) := OD.out.cell? 0
          have zb : b < wr.heap.size := Nat.lt_of_lt_of_le hb K.size
          have zd : w.heap.size < wr.heap.size := OD.out.lt
          clear hc hb
          generalize hx : l[i] = x at *
          have HX := Lib.hid hx
          clear hx
          by_cases ha : x.at_ < 61
          · have HE : Hid (planErr d l = 1) := by
              show _ = _
              exact planErr_bad hlt (by rw [HX.out]; simp [okW]; omega)
            go_wp2
            go_ret2
            exact ⟨_, by rw [HE.out]; rfl, by rw [planL_no HE.out (by decide)]; exact opsAt_nil _ _, K.alloc _⟩
          · by_cases hb : x.at_ < d.sec.length
            · have hb' : ¬ x.at_ ≥ (d.sec.length : Int) := by omega
              by_cases hz : x.data.size = 64
              · have t1 := bne_f (a := x.data.size) (b := 64) (by omega)
                have HA' : Hid ((l.take (i + 1)).all (okW d) = true) := all_take_succ _ _ _ hlt HA.out (by rw [HX.out]; simp [okW, hb, hz]; omega)
                go_wp2
                go_roundw
                case rel => exact ⟨i + 1, by omega, by go_num, HA'.out, OD.out.alloc _, K.alloc _⟩
                case measure => simp [intOf]; omega
              · have t1 := bne_t (a := x.data.size) (b := 64) (by omega)
                have HE : Hid (planErr d l = 1) := by
                  show _ = _
                  exact planErr_bad hlt (by rw [HX.out]; simp [okW, hz])
                go_wp2
                go_ret2
                exact ⟨_, by rw [HE.out]; rfl, by rw [planL_no HE.out (by decide)]; exact opsAt_nil _ _, K.alloc _⟩
            · have hb' : x.at_ ≥ (d.sec.length : Int) := by omega
              have HE : Hid (planErr d l = 1) := by
                show _ = _
                exact planErr_bad hlt (by rw [HX.out]; simp [okW]; omega)
              go_wp2
              go_ret2
              exact ⟨_, by rw [HE.out]; rfl, by rw [planL_no HE.out (by decide)]; exact opsAt_nil _ _, K.alloc _⟩
        · have HA' : Hid (l.all (okW d) = true) := all_of_take _ _ i (by omega) HA.out
          clear HA
          by_cases h30 : 30 < l.length
          · have h30' : (30 : Int) < (l.length : Int) := by omega
            have HE : Hid (planErr d l = 4) := by
              show _ = _
              unfold planErr
              rw [if_neg (fun h => h.elim (fun h => by rw [hs] at h; cases h) h0), if_neg (by rw [HA'.out]; simp), if_pos h30]
            go_wp2
            go_ret2
            exact ⟨_, by rw [HE.out]; rfl, by rw [planL_no HE.out (by decide)]; exact opsAt_nil _ _, K⟩
          · have h30' : ¬ (30 : Int) < (l.length : Int) := by omega
            have HE : Hid (planErr d l = 0) := by
              show _ = _
              unfold planErr
              rw [if_neg (fun h => h.elim (fun h => by rw [hs] at h; cases h) h0), if_neg (by rw [HA'.out]; simp), if_neg h30]
            obtain ⟨cs, hcs, hmk⟩ := run_mkOps l.length (by omega)
            have HCS : Hid ((wr.alloc (.cells cs 40)).ownsRow wr.heap.size 40 3 (.slice (some ⟨wr.heap.size, 0, none⟩) (entTo l 0).length (3 * l.length + 6)) (entTo l 0).length ((entTo l 0).flatMap opC)) :=
              World.ownsRow_made wr cs _ (Nat.le_refl _) (by unfold maxLen; omega) hcs
            have HCA : Hid (∀ x ∈ l, 61 ≤ x.at_ ∧ x.data.size = 64) := by
              intro x hx
              have := List.all_eq_true.1 HA'.out x hx
              simp [okW] at this
              exact ⟨this.1.1, this.2⟩
            go_wp2
            have zg : w.heap.size < wr.heap.size := OD.out.lt
            have hsz : (wr.alloc (.cells cs 40)).heap.size = wr.heap.size + 1 := by simp
            have hb0 := bd_new (wr.alloc (.cells cs 40)) 87 5
            rw [hsz] at hb0
            have HB0 : Hid (Lib.IsBuilder 87 5 (wr.heap.size + 1) (wr.heap.size + 1) (Lib.byteCells (allTo l 0)) ((wr.alloc (.cells cs 40)).alloc (.cells #[.pointer none, .slice none 0 0] 87))) := .inl hb0
            have HO0 := Lib.hid (HCS.out.alloc (.cells #[.pointer none, .slice none 0 0] 87))
            have K0 := (K.alloc (.cells cs 40)).alloc (.cells #[.pointer none, .slice none 0 0] 87)
            have hz0 : wr.heap.size + 1 < ((wr.alloc (.cells cs 40)).alloc (.cells #[.pointer none, .slice none 0 0] 87)).heap.size := by simp
            clear hb0 hsz HCS OD K
            generalize ((wr.alloc (.cells cs 40)).alloc (.cells #[.pointer none, .slice none 0 0] 87)) = w3 at *
            generalize hg : wr.heap.size = g at *
            go_loopw [8, 57] (fun ov iv wq => ∃ j : Nat, j ≤ l.length ∧ iv = .int .i64 j ∧ ov = .slice (some ⟨g, 0, none⟩) (entTo l j).length (3 * l.length + 6) ∧ wq.ownsRow g 40 3 (.slice (some ⟨g, 0, none⟩) (entTo l j).length (3 * l.length + 6)) (entTo l j).length ((entTo l j).flatMap opC) ∧ Lib.IsBuilder 87 5 (g + 1) (g + 1) (Lib.byteCells (allTo l j)) wq ∧ Kept w wq ∧ g + 1 < wq.heap.size) (fun _ iv _ => l.length - (intOf iv).toNat)
            case atStart => exact ⟨0, Nat.zero_le _, rfl, rfl, HO0.out, HB0.out, K0, hz0⟩
            case round =>
              clear HO0 HB0 K0 hz0
              obtain ⟨j, hj, rfl, rfl, ho, hbd, K, hz⟩ := hrel
              have hal : (allTo l j).length ≤ 128 * j := allTo_le (fun x hx => (HCA.out x hx).2) j
              by_cases hlt : j < l.length
              · obtain ⟨b, o, rfl, hb, _, hc⟩ := HR2.out (by rw [wrs_length]; omega)
                have g1 : wr.cell? ⟨b, o + j * 2, none⟩ = some (.int .i64 l[j].at_) := (K.cell hb).trans (hc _ _ (wrs_at hlt).1)
                have g2 : wr.cell? ⟨b, o + j * 2 + 1, none⟩ = some (.string l[j].data) := (K.cell (p := ⟨b, _, none⟩) hb).trans (hc _ _ (wrs_at hlt).2)
                have zb : b < wr.heap.size := Nat.lt_of_lt_of_le hb K.size
                have hax : atW l j = l[j] := by unfold atW; rw [List.getD_eq_getElem?_getD, List.getElem?_eq_getElem hlt]; rfl
                obtain ⟨h61, h64⟩ := HCA.out l[j] (List.getElem_mem hlt)
                have HS1 : Hid (entTo l (j + 1) = entTo l j ++ [⟨false, ⟨1 + 2 * (j : Int), dst (atW l j).at_.toNat⟩⟩, ⟨false, ⟨2 + 2 * (j : Int), (atW l j).data⟩⟩]) := rfl
                have HS2 : Hid (allTo l (j + 1) = allTo l j ++ (dst (atW l j).at_.toNat).data.toList ++ (atW l j).data.data.toList) := rfl
                rw [hax] at HS1 HS2
                generalize l[j] = x at *
                obtain ⟨xa, xd⟩ := x
                obtain ⟨a, rfl⟩ : ∃ a : Nat, xa = (a : Int) := ⟨xa.toNat, by simp only at h61; omega⟩
                simp only [Int.toNat_natCast] at HS1 HS2 g1 g2 h64
                have HO := Lib.hid ho
                have HBD := Lib.hid hbd
                clear ho hbd hc hb hax h61
                have OX := Own.new wr 38 [.int .i64 (a : Int), .string xd]
                have K4 := K.alloc (.cells #[.int .i64 (a : Int), .string xd] 38)
                have BD4 := HBD.out
                go_wp2_with fail
                refine (dst_any a _).mono ?_
                rintro e w4 ⟨rfl, hk4⟩
                have hk4' : Kept wr w4 := ((Kept.refl wr).alloc _).trans hk4
                replace OX : w4.heap[wr.heap.size]? = some (.cells #[.int .i64 (a : Int), .string xd] 38 (0, 0)) := (hk4.block wr.heap.size (by simp)).trans OX
                replace K4 := K.trans hk4'
                have BD5 : Lib.IsBuilder 87 5 (g + 1) (g + 1) (Lib.byteCells (allTo l j)) w4 := HBD.out.elim (fun h => .inl (bd_kept h hk4')) (fun h => .inr (bd_kept h hk4'))
                have HO4 := Lib.hid (ownsRow_kept HO.out hk4')
                have hs4 := hk4'.size
                go_wp2_with fail
                refine (writeString_t (g + 1) (g + 1) _ (dst a) w4 BD5 (by rw [Lib.byteCells, List.length_map, dst_size]; omega) (by omega)).mono ?_
                rintro e w5 ⟨rfl, BD6, hbl5, hs5, hkp5⟩
                have OX5 := hkp5 wr.heap.size _ _ _ (by omega) (by decide) OX
                have HO5 := Lib.hid (row_same HO4.out (hbl5.block g (by omega)))
                have K5 : Kept w w5 := Below.trans K4 (Below.mono hbl5 (by omega))
                have ox1 : w5.cell? ⟨wr.heap.size, 1, none⟩ = some (.string xd) := by rw [Lib.cell_of_heap OX5]; rfl
                have zx : wr.heap.size < w5.heap.size := (Array.getElem?_eq_some_iff.1 OX5).1
                clear hkp5 OX BD5 K4 HO4
                go_wp2_with fail
                refine (writeString_t (g + 1) (g + 1) _ xd w5 BD6 (by rw [List.length_append, Lib.byteCells, List.length_map, Lib.strCells_length, dst_size, h64]; omega) (by omega)).mono ?_
                rintro e w6 ⟨rfl, BD7, hbl6, hs6, hkp6⟩
                have OX6 := hkp6 wr.heap.size _ _ _ (by omega) (by decide) OX5
                have HO6 := Lib.hid (row_same HO5.out (hbl6.block g (by omega)))
                have K6 : Kept w w6 := Below.trans K5 (Below.mono hbl6 (by omega))
                clear ox1 zx
                have ox1 : w6.cell? ⟨wr.heap.size, 1, none⟩ = some (.string xd) := by rw [Lib.cell_of_heap OX6]; rfl
                have zx : wr.heap.size < w6.heap.size := (Array.getElem?_eq_some_iff.1 OX6).1
                clear hkp6 OX5 BD6 K5 HO5
                have OX := Lib.hid (show Own w6 wr.heap.size 38 [.int .i64 (a : Int), .string xd] from OX6)
                clear OX6 ox1
                have j1 : IntKind.i64.wrap (2 * (j : Int)) = 2 * (j : Int) := IntWalk.i64_in _ (by omega)
                have j2 : IntKind.i64.wrap (1 + 2 * (j : Int)) = 1 + 2 * (j : Int) := IntWalk.i64_in _ (by omega)
                have j3 : IntKind.i64.wrap (2 + 2 * (j : Int)) = 2 + 2 * (j : Int) := IntWalk.i64_in _ (by omega)
                go_upto_region 19 with fail
                have CX0 : ∀ W', Kept w6 W' → W'.cell? ⟨wr.heap.size, 0, none⟩ = some (.int .i64 (a : Int)) := fun W' hk => (OX.out.kept hk).cell? 0
                have CX1 : ∀ W', Kept w6 W' → W'.cell? ⟨wr.heap.size, 1, none⟩ = some (.string xd) := fun W' hk => (OX.out.kept hk).cell? 1
                refine wp_region_Z (S := fun W' => Kept w6 W') (Z := [13, 14]) (by kernel_rfl) ((Kept.refl _).drew) (fun hHeld => ?_)
                have kr := (Kept.refl w6).drew
                have K6r := K6
                have zr := K6.size
                have OXr := OX
                have HO6r := HO6
                replace OX := Lib.hid (OXr.out.kept kr)
                replace HO6 := Lib.hid (ownsRow_kept HO6r.out kr)
                replace K6 := K6r.trans kr
                generalize w6.drew = wq1 at *
                refine wpAnyZ_take (i := 0) (oi := { dst := some 70, op := Op.move (Operand.tmp 8), type := 33, pos := "wal.go:40", after := #[], guard := none }) (v := ?_) rfl (by kernel_rfl) (fun _ _ _ h => h) (Or.inl ⟨by rfl, ?_⟩) (by assumption) ?_
                rotate_left
                · (intro wz hSw; (try dsimp only at hSw); go_simp; (try with_reducible rfl))
                (try simp only [Act.put, List.setIfInBounds_toArray, List.set_cons_zero, List.set_cons_succ])
                refine wpAnyZ_take (i := 1) (oi := { dst := some 71, op := Op.move (Operand.tmp 10), type := 3, pos := "wal.go:40", after := #[], guard := none }) (v := ?_) rfl (by kernel_rfl) (fun _ _ _ h => h) (Or.inl ⟨by rfl, ?_⟩) (by assumption) ?_
                rotate_left
                · (intro wz hSw; (try dsimp only at hSw); go_simp; (try with_reducible rfl))
                (try simp only [Act.put, List.setIfInBounds_toArray, List.set_cons_zero, List.set_cons_succ])
                refine wpAnyZ_take (i := 2) (oi := { dst := some 72, op := Op.binOp BinOp.mul 3 (Operand.const (Value.int IntKind.i64 2)) (Operand.tmp 71) 3, type := 3, pos := "wal.go:40", after := #[{ on := 1, ground := Ground.data }], guard := none }) (v := ?_) rfl (by kernel_rfl) (fun _ _ _ h => h) (Or.inl ⟨by rfl, ?_⟩) (by assumption) ?_
                rotate_left
                · (intro wz hSw; (try dsimp only at hSw); go_simp; (try with_reducible rfl))
                (try simp only [Act.put, List.setIfInBounds_toArray, List.set_cons_zero, List.set_cons_succ])
                refine wpAnyZ_take (i := 3) (oi := { dst := some 73, op := Op.binOp BinOp.add 3 (Operand.const (Value.int IntKind.i64 1)) (Operand.tmp 72) 3, type := 3, pos := "wal.go:40", after := #[{ on := 2, ground := Ground.data }], guard := none }) (v := ?_) rfl (by kernel_rfl) (fun _ _ _ h => h) (Or.inl ⟨by rfl, ?_⟩) (by assumption) ?_
                rotate_left
                · (intro wz hSw; (try dsimp only at hSw); go_simp; (try with_reducible rfl))
                (try simp only [Act.put, List.setIfInBounds_toArray, List.set_cons_zero, List.set_cons_succ])
                refine wpAnyZ_take (i := 4) (oi := { dst := some 74, op := Op.move (Operand.tmp 12), type := 9, pos := "wal.go:40", after := #[], guard := none }) (v := ?_) rfl (by kernel_rfl) (fun _ _ _ h => h) (Or.inl ⟨by rfl, ?_⟩) (by assumption) ?_
                rotate_left
                · (intro wz hSw; (try dsimp only at hSw); go_simp; (try with_reducible rfl))
                (try simp only [Act.put, List.setIfInBounds_toArray, List.set_cons_zero, List.set_cons_succ])
                refine wpAnyZ_take (i := 6) (oi := { dst := some 76, op := Op.move (Operand.tmp 10), type := 3, pos := "wal.go:40", after := #[], guard := none }) (v := ?_) rfl (by kernel_rfl) (fun _ _ _ h => h) (Or.inl ⟨by rfl, ?_⟩) (by assumption) ?_
                rotate_left
                · (intro wz hSw; (try dsimp only at hSw); go_simp; (try with_reducible rfl))
                (try simp only [Act.put, List.setIfInBounds_toArray, List.set_cons_zero, List.set_cons_succ])
                refine wpAnyZ_take (i := 7) (oi := { dst := some 77, op := Op.binOp BinOp.mul 3 (Operand.const (Value.int IntKind.i64 2)) (Operand.tmp 76) 3, type := 3, pos := "wal.go:40", after := #[{ on := 6, ground := Ground.data }], guard := none }) (v := ?_) rfl (by kernel_rfl) (fun _ _ _ h => h) (Or.inl ⟨by rfl, ?_⟩) (by assumption) ?_
                rotate_left
                · (intro wz hSw; (try dsimp only at hSw); go_simp; (try with_reducible rfl))
                (try simp only [Act.put, List.setIfInBounds_toArray, List.set_cons_zero, List.set_cons_succ])
                refine wpAnyZ_take (i := 8) (oi := { dst := some 78, op := Op.binOp BinOp.add 3 (Operand.const (Value.int IntKind.i64 2)) (Operand.tmp 77) 3, type := 3, pos := "wal.go:40", after := #[{ on := 7, ground := Ground.data }], guard := none }) (v := ?_) rfl (by kernel_rfl) (fun _ _ _ h => h) (Or.inl ⟨by rfl, ?_⟩) (by assumption) ?_
                rotate_left
                · (intro wz hSw; (try dsimp only at hSw); go_simp; (try with_reducible rfl))
                (try simp only [Act.put, List.setIfInBounds_toArray, List.set_cons_zero, List.set_cons_succ])
                refine wpAnyZ_take (i := 9) (oi := { dst := some 79, op := Op.fieldAddr 38 (Operand.tmp 11) 1, type := 0, pos := "wal.go:40", after := #[], guard := none }) (v := ?_) rfl (by kernel_rfl) (fun _ _ _ h => h) (Or.inl ⟨by rfl, ?_⟩) (by assumption) ?_
                rotate_left
                · (intro wz hSw; (try dsimp only at hSw); go_simp; (try with_reducible rfl))
                (try simp only [Act.put, List.setIfInBounds_toArray, List.set_cons_zero, List.set_cons_succ])
                refine wpAnyZ_take (i := 10) (oi := { dst := some 80, op := Op.load 9 (Operand.tmp 79), type := 9, pos := "wal.go:40", after := #[{ on := 9, ground := Ground.data }], guard := none }) (v := ?_) rfl (by kernel_rfl) (fun _ _ _ h => h) (Or.inl ⟨by rfl, ?_⟩) (by assumption) ?_
                rotate_left
                · (intro wz hSw; (try dsimp only at hSw); go_simp; (try with_reducible rfl))
                (try simp only [Act.put, List.setIfInBounds_toArray, List.set_cons_zero, List.set_cons_succ])
                refine wpAnyZ_ready (rs := [5]) (by kernel_rfl) (by simp) ?_
                refine AllReadyZ.cons (o := { dst := some 75, op := Op.call { callee := Callee.value (Operand.func 45), args := #[Operand.tmp 73, Operand.tmp 74], argTypes := #[3, 9] }, type := 40, pos := "wal.go:40", after := #[{ on := 3, ground := Ground.data }, { on := 4, ground := Ground.data }], guard := none }) rfl (fun KK hKK => ?_) AllReadyZ.nil
                go_simp
                refine (opWrite_any (1 + 2 * (j : Int)) (dst a) wq1).mono ?_
                rintro e wq2 ⟨rfl, hk⟩
                clear hHeld
                replace kr := kr.trans hk
                replace OX := Lib.hid (OXr.out.kept kr)
                replace HO6 := Lib.hid (ownsRow_kept HO6r.out kr)
                replace K6 := K6r.trans kr
                clear hk
                go_simp
                refine hKK.out _ _ ?_ (fun hHeld => ?_)
                · exact kr
                clear hKK KK
                (try simp only [Act.put, List.setIfInBounds_toArray, List.set_cons_zero, List.set_cons_succ])
                refine wpAnyZ_ready (rs := [11]) (by kernel_rfl) (by simp) ?_
                refine AllReadyZ.cons (o := { dst := some 81, op := Op.call { callee := Callee.value (Operand.func 45), args := #[Operand.tmp 78, Operand.tmp 80], argTypes := #[3, 9] }, type := 40, pos := "wal.go:40", after := #[{ on := 8, ground := Ground.data }, { on := 10, ground := Ground.data }, { on := 5, ground := Ground.chain }], guard := none }) rfl (fun KK hKK => ?_) AllReadyZ.nil
                go_simp
                refine (opWrite_any (2 + 2 * (j : Int)) xd wq2).mono ?_
                rintro e wq3 ⟨rfl, hk⟩
                clear hHeld
                replace kr := kr.trans hk
                replace OX := Lib.hid (OXr.out.kept kr)
                replace HO6 := Lib.hid (ownsRow_kept HO6r.out kr)
                replace K6 := K6r.trans kr
                clear hk
                go_simp
                refine hKK.out _ _ ?_ (fun hHeld => ?_)
                · exact kr
                clear hKK KK
                (try simp only [Act.put, List.setIfInBounds_toArray, List.set_cons_zero, List.set_cons_succ])
                refine wpAnyZ_ready (rs := [12]) (by kernel_rfl) (by simp) ?_
                refine AllReadyZ.cons (o := { dst := some 82, op := Op.buildSlice 33 2 #[(0, Operand.tmp 75), (1, Operand.tmp 81)], type := 33, pos := "wal.go:40", after := #[{ on := 5, ground := Ground.data }, { on := 11, ground := Ground.data }], guard := none }) rfl (fun KK hKK => ?_) AllReadyZ.nil
                go_simp
                replace kr := kr.alloc (.cells #[.bool false, .int .i64 (1 + 2 * (j : Int)), .string (dst a), .bool false, .int .i64 (2 + 2 * (j : Int)), .string xd] 40)
                clear hHeld
                have OP := Lib.hid (Own.new wq3 40 [.bool false, .int .i64 (1 + 2 * (j : Int)), .string (dst a), .bool false, .int .i64 (2 + 2 * (j : Int)), .string xd])
                replace OX := Lib.hid (OXr.out.kept kr)
                replace HO6 := Lib.hid (ownsRow_kept HO6r.out kr)
                replace K6 := K6r.trans kr
                generalize (wq3.alloc (.cells #[.bool false, .int .i64 (1 + 2 * (j : Int)), .string (dst a), .bool false, .int .i64 (2 + 2 * (j : Int)), .string xd] 40)) = wq4 at *
                generalize wq3.heap.size = bP at *
                refine hKK.out _ _ ?_ (fun hHeld => ?_)
                · exact kr
                clear hKK KK
                (try simp only [Act.put, List.setIfInBounds_toArray, List.set_cons_zero, List.set_cons_succ])
                refine wpAnyZ_ready (rs := [13]) (by kernel_rfl) (by simp) ?_
                refine AllReadyZ.late (o := { dst := some 83, op := Op.call { callee := Callee.builtin Builtin.append, args := #[Operand.tmp 70, Operand.tmp 82], argTypes := #[33, 33] }, type := 33, pos := "wal.go:40", after := #[{ on := 0, ground := Ground.data }, { on := 12, ground := Ground.data }, { on := 11, ground := Ground.chain }], guard := none }) rfl (by simp) (fun KK hKK => ?_) AllReadyZ.nil
                refine Tryd.elOp.step_fit rfl _ _ rfl g g (3 * l.length + 6) (entTo l j) rfl HO6.out bP 2 [⟨false, ⟨1 + 2 * (j : Int), dst a⟩⟩, ⟨false, ⟨2 + 2 * (j : Int), xd⟩⟩] rfl OP.out (opC_one _) (by rw [entTo_len]; simp only [List.length_cons, List.length_nil]; omega) ?_
                intro wq5 hap hgr
                rw [← HS1.out] at hap ⊢
                have BD8 : Lib.IsBuilder 87 5 (g + 1) (g + 1) (Lib.byteCells (allTo l (j + 1))) wq5 := by rw [HS2.out, Lib.byteCells_append, Lib.byteCells_append, ← Lib.strCells_eq, ← Lib.strCells_eq]; exact BD7.elim (fun h => .inl (bd_grown (bd_kept h kr) hgr (by omega))) (fun h => .inr (bd_grown (bd_kept h kr) hgr (by omega)))
                have K8 : Kept w wq5 := (K6r.trans kr).grown hgr (fun k e => by injection e with e; omega)
                have z8 : g + 1 < wq5.heap.size := by have := kr.size; have := hgr.size; omega
                have HO8 := Lib.hid hap
                clear hap hgr
                refine hKK.out _ _ ?_
                clear hKK KK
                (try simp only [Act.put, List.setIfInBounds_toArray, List.set_cons_zero, List.set_cons_succ])
                refine wpAnyZ_ready (rs := [14]) (by kernel_rfl) (by simp) ?_
                refine AllReadyZ.late (o := { dst := some 8, op := Op.assign (Operand.tmp 83), type := 33, pos := "wal.go:40", after := #[{ on := 13, ground := Ground.data }, { on := 13, ground := Ground.chain }, { on := 0, ground := Ground.phase }, { on := 1, ground := Ground.phase }, { on := 2, ground := Ground.phase }, { on := 3, ground := Ground.phase }, { on := 4, ground := Ground.phase }, { on := 5, ground := Ground.phase }, { on := 6, ground := Ground.phase }, { on := 7, ground := Ground.phase }, { on := 8, ground := Ground.phase }, { on := 9, ground := Ground.phase }, { on := 10, ground := Ground.phase }, { on := 11, ground := Ground.phase }, { on := 12, ground := Ground.phase }, { on := 13, ground := Ground.phase }], guard := none }) rfl (by simp) (fun KK hKK => ?_) AllReadyZ.nil
                go_simp
                refine hKK.out _ _ ?_
                clear hKK KK
                (try simp only [Act.put, List.setIfInBounds_toArray, List.set_cons_zero, List.set_cons_succ])
                refine wpAnyZ_done (by kernel_rfl) ?_ _
                clear CX0 CX1 OXr HO6r K6r zr hHeld kr
                go_wp2
                go_roundw
                case rel => exact ⟨j + 1, by omega, by go_num, rfl, HO8.out, BD8, K8, z8⟩
                case measure => simp [intOf]; omega
              · have HJ : Hid (j = l.length) := by show _ = _; omega
                have HO := Lib.hid ho
                have BD := Lib.hid hbd
                have j0 : ¬ (j : Int) < (l.length : Int) := by omega
                clear ho hbd hlt HCA
                go_wp2_with fail
                refine (opFlush_any _).mono ?_
                rintro e w4 ⟨rfl, hk⟩
                replace HO := Lib.hid (ownsRow_kept HO.out hk)
                have BD4 : Lib.IsBuilder 87 5 (g + 1) (g + 1) (Lib.byteCells (allTo l j)) w4 := BD.out.elim (fun h => .inl (bd_kept h hk)) (fun h => .inr (bd_kept h hk))
                replace K := K.trans hk
                have hs4 := hk.size
                clear hk BD
                go_wp2_with fail
                refine (Tryd.Builder_String_any (g + 1) (g + 1) (allTo l j) w4 BD4 (by omega)).mono ?_
                rintro e w5 ⟨rfl, hb5⟩
                replace HO := Lib.hid (row_same HO.out (hb5.block g (by omega)))
                replace K : Kept w w5 := Below.trans K (Below.mono hb5 (by omega))
                have hs5 := hb5.size
                clear hb5 BD4
                go_wp2_with fail
                refine (header_any l.length ⟨(allTo l j).toArray⟩ (by omega) (by show (allTo l j).toArray.size ≤ _; rw [List.size_toArray]; omega) w5 (HT.out.kept K)).mono ?_
                rintro e w6 ⟨rfl, hk⟩
                replace HO := Lib.hid (ownsRow_kept HO.out hk)
                replace K := K.trans hk
                have hs6 := hk.size
                clear hk
                have HPL : Hid (planL d l = (entTo l j ++ [opF, ⟨false, ⟨0, hdr l.length ⟨(allTo l j).toArray⟩⟩⟩, opF]) ++ l.map wop' ++ [opF, ⟨false, ⟨0, zerosB 64⟩⟩, opF]) := by
                  show _ = _
                  rw [planL_yes HE.out, HJ.out]
                  simp only [planOps, List.append_assoc]; rfl
                generalize hdr l.length ⟨(allTo l j).toArray⟩ = hd at *
                go_wp2_with fail
                refine (opWrite_any 0 hd w6).mono ?_
                rintro e w7 ⟨rfl, hk⟩
                replace HO := Lib.hid (ownsRow_kept HO.out hk)
                replace K := K.trans hk
                have hs7 := hk.size
                clear hk
                go_wp2_with fail
                refine (opFlush_any w7).mono ?_
                rintro e w8 ⟨rfl, hk⟩
                replace HO := Lib.hid (ownsRow_kept HO.out hk)
                replace K := K.trans hk
                have hs8 := hk.size
                clear hk
                go_upto_region 22 with (at_builtin; go_must (refine Tryd.elOp.wpList_fit rfl (.tmp 85) (.tmp 93) rfl g g (3 * l.length + 6) (entTo l j) rfl (HO.out.alloc _) w8.heap.size 3 [opF, ⟨false, ⟨0, hd⟩⟩, opF] rfl (Own.new w8 _ _) (opC_one _) (by rw [entTo_len]; simp only [List.length_cons, List.length_nil]; omega) ?_; intro w9 hap hgr))
                have hPl : (entTo l j ++ [opF, ⟨false, ⟨0, hd⟩⟩, opF]).length = 2 * l.length + 3 := by rw [List.length_append, entTo_len, HJ.out]; rfl
                have e : (entTo l j).length + 3 = (entTo l j ++ [opF, ⟨false, ⟨0, hd⟩⟩, opF]).length := by rw [List.length_append]; rfl
                rw [e]
                clear e
                generalize entTo l j ++ [opF, ⟨false, ⟨0, hd⟩⟩, opF] = P at *
                replace HO := Lib.hid hap
                have K9 := (K.alloc (.cells ([opF, ⟨false, ⟨0, hd⟩⟩, opF].flatMap opC).toArray 40)).grown hgr (fun k e => by injection e with e; omega)
                have hs9 : g < w9.heap.size := by have := hgr.size; simp at this; omega
                clear hap hgr K hs4 hs5 hs6 hs7 hs8 hz
                go_wp2
                go_loopw [8, 97] (fun ov iv wq => ∃ k : Nat, k ≤ l.length ∧ iv = .int .i64 k ∧ ov = .slice (some ⟨g, 0, none⟩) (P ++ (l.take k).map wop').length (3 * l.length + 6) ∧ wq.ownsRow g 40 3 (.slice (some ⟨g, 0, none⟩) (P ++ (l.take k).map wop').length (3 * l.length + 6)) (P ++ (l.take k).map wop').length ((P ++ (l.take k).map wop').flatMap opC) ∧ Kept w wq ∧ g < wq.heap.size) (fun _ iv _ => l.length - (intOf iv).toNat)
                case atStart => 
                  refine ⟨0, Nat.zero_le _, rfl, ?_, ?_, K9, hs9⟩
                  · rw [List.take_zero, List.map_nil, List.append_nil]
                  · rw [List.take_zero, List.map_nil, List.append_nil]; exact HO.out
                case round =>
                  clear HO K9 hs9
                  obtain ⟨k, hk, rfl, rfl, ho, K, hz⟩ := hrel
                  have HO := Lib.hid ho
                  clear ho
                  have hMl : (P ++ (l.take k).map wop').length = 2 * l.length + 3 + k := by rw [List.length_append, hPl, List.length_map, List.length_take]; omega
                  by_cases hlt : k < l.length
                  · obtain ⟨b, o, rfl, hb, _, hc⟩ := HR2.out (by rw [wrs_length]; omega)
                    have g1 : wr.cell? ⟨b, o + k * 2, none⟩ = some (.int .i64 l[k].at_) := (K.cell hb).trans (hc _ _ (wrs_at hlt).1)
                    have g2 : wr.cell? ⟨b, o + k * 2 + 1, none⟩ = some (.string l[k].data) := (K.cell (p := ⟨b, _, none⟩) hb).trans (hc _ _ (wrs_at hlt).2)
                    have zb : b < wr.heap.size := Nat.lt_of_lt_of_le hb K.size
                    have HM : Hid (P ++ (l.take (k + 1)).map wop' = (P ++ (l.take k).map wop') ++ [wop' l[k]]) := by
                      show _ = _
                      rw [List.take_succ_eq_append_getElem hlt, List.map_append, List.append_assoc]; rfl
                    clear hc hb
                    generalize l[k] = x at *
                    generalize P ++ (l.take k).map wop' = M at *
                    have HML := Lib.hid hMl
                    have HPL2 := Lib.hid hPl
                    clear hMl hPl
                    go_upto_region 26 with (at_builtin; go_must (refine Tryd.elOp.wpList_fit rfl (.tmp 101) (.tmp 104) rfl g g (3 * l.length + 6) M rfl ((HO.out.alloc _).alloc _) (wr.heap.size + 1) 1 [wop' x] rfl (Own.new1 wr _ _ _) (opC_one _) (by rw [HML.out]; simp only [List.length_cons, List.length_nil]; omega) ?_; intro w10 hap hgr))
                    rw [← HM.out] at hap
                    have K10 := ((K.alloc _).alloc _).grown hgr (fun k e => by injection e with e; omega)
                    have hs10 : g < w10.heap.size := by have := hgr.size; simp at this; omega
                    replace HO := Lib.hid hap
                    clear hap hgr K
                    go_wp2
                    go_roundw
                    case rel => exact ⟨k + 1, by omega, by go_num, by rw [HM.out, List.length_append]; rfl, HO.out, K10, hs10⟩
                    case measure => simp [intOf]; omega
                  · have e : l.take k = l := List.take_of_length_le (by omega)
                    rw [e] at HO hMl ⊢
                    clear e
                    have hkl : k = l.length := by omega
                    rw [hkl] at hMl
                    generalize P ++ l.map wop' = M at *
                    have HML := Lib.hid hMl
                    have HPL2 := Lib.hid hPl
                    clear hMl hPl hkl
                    go_wp2_with fail
                    refine (opFlush_any wr).mono ?_
                    rintro e v1 ⟨rfl, hk⟩
                    replace HO := Lib.hid (ownsRow_kept HO.out hk)
                    replace K := K.trans hk
                    have hv1 := hk.size
                    clear hk
                    go_wp2_with fail
                    refine (zeros_any 64 (by omega) v1).mono ?_
                    rintro e v2 ⟨rfl, hk⟩
                    replace HO := Lib.hid (ownsRow_kept HO.out hk)
                    replace K := K.trans hk
                    have hv2 := hk.size
                    clear hk
                    generalize hZ : zerosB 64 = Z at *
                    clear hZ
                    go_wp2_with fail
                    refine (opWrite_any 0 Z v2).mono ?_
                    rintro e v3 ⟨rfl, hk⟩
                    replace HO := Lib.hid (ownsRow_kept HO.out hk)
                    replace K := K.trans hk
                    have hv3 := hk.size
                    clear hk
                    go_wp2_with fail
                    refine (opFlush_any v3).mono ?_
                    rintro e v4 ⟨rfl, hk⟩
                    replace HO := Lib.hid (ownsRow_kept HO.out hk)
                    replace K := K.trans hk
                    have hv4 := hk.size
                    clear hk
                    go_wp2_with (at_builtin; go_must (refine Tryd.elOp.wpList_fit rfl (.tmp 107) (.tmp 112) rfl g g (3 * l.length + 6) M rfl (HO.out.alloc _) v4.heap.size 3 [opF, ⟨false, ⟨0, Z⟩⟩, opF] rfl (Own.new v4 _ _) (opC_one _) (by rw [HML.out]; simp only [List.length_cons, List.length_nil]; omega) ?_; intro v5 hap hgr))
                    have K5 := (K.alloc _).grown hgr (fun k e => by injection e with e; omega)
                    rw [← HPL.out] at hap
                    have HO5 := Lib.hid hap
                    have HN : Hid (M.length + 3 = (planL d l).length) := by show _ = _; rw [HPL.out, List.length_append]; rfl
                    clear hap hgr K HO
                    go_ret2
                    refine ⟨_, by rw [HE.out]; rfl, ?_, K5⟩
                    obtain ⟨A9, c9, e9, h91, h92, h93⟩ := own_form (V := V) HO5.out (fun j hj => by have := HV.out j hj; omega)
                    rw [HN.out]
                    exact ⟨A9, c9, e9, h91, h92, h93⟩
  · have HE : Hid (planErr d l = 1) := by show _ = _; unfold planErr; rw [if_pos (.inl (by simpa using hs))]
    replace hs : suitsB d = false := by simpa using hs
    go_enter Tryd.func14, Tryd.ntmps14
    go_wp2_with fail
    refine (HU.out _ K).mono ?_
    rintro e w1 ⟨rfl, hk⟩
    go_wp2
    go_ret2
    exact ⟨_, by rw [HE.out]; rfl, by rw [planL_no HE.out (by decide)]; exact opsAt_nil _ _, K.trans hk⟩
end Go.Proofs.YtagpimahicgkmaaDoor
