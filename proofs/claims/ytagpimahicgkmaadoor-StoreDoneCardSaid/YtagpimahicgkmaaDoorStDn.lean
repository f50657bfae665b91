/- Walk: mailsacklaw12.StoreDone. -/
import Derived.Test.YtagpimahicgkmaaDoorStSz
import Derived.Test.YtagpimahicgkmaaDoorMa
namespace Go.Proofs.YtagpimahicgkmaaDoor
open Go.RowKit

/-- What a name reads behind Apply. -/
theorem done_law {dd xn : Dk} {l : List Chg} (hg : Good dd) (hx : Good xn) (h : ∀ n, readO xn n = turnsO n l (readO dd n)) (n : ByteArray) :
    ((lastL n l).2 = false → getR xn n = getR dd n) ∧ ((lastL n l).2 = true → (lastL n l).1.gone = true → getR xn n = (⟨#[]⟩, 6)) ∧ ((lastL n l).2 = true → (lastL n l).1.gone = false → getR xn n = ((lastL n l).1.data, 0)) := by
  rw [hg.get, hx.get, h, turns_last]
  unfold lastO
  refine ⟨fun e => ?_, fun e f => ?_, fun e f => ?_⟩
  · rw [e]; rfl
  · rw [e, f]; rfl
  · rw [e, f]; rfl
def sC (s : ByteArray) : List Value := [.string s]
theorem strs_sC (l : List ByteArray) : strs l = l.flatMap sC := by
  induction l with
  | nil => rfl
  | cons a l ih => show _ :: strs l = _; rw [ih]; rfl
theorem Tryd.elS : Elem Tryd.prog 22 9 1 16 sC :=
  Elem.of (z := .string ⟨#[]⟩) (by kernel_rfl) (by kernel_rfl) rfl (by omega) (fun _ => rfl)
theorem sC_one (l : List ByteArray) : ∀ u ∈ l.flatMap sC, u.oneCell' = true := by
  intro u hu
  obtain ⟨x, _, hx⟩ := List.mem_flatMap.1 hu
  simp only [sC, List.mem_cons, List.not_mem_nil, or_false] at hx
  subst hx; rfl
theorem own_low {w : World} {b b2 size n : Nat} {e : TypeId} {v : Value} {xs : List Value} (h : w.ownsRow b2 e size v n xs) (hb : b ≤ b2) : w.ownsRow b e size v n xs := by
  refine ⟨h.1, h.2.imp id fun ⟨g, cap, cur, hv, hg, r⟩ => ⟨g, cap, cur, hv, Nat.le_trans hb hg, r⟩⟩
theorem own_grown {w w' : World} {g : Nat} {t : TypeId} {cs : List Value} {v : Value} (h : Own w g t cs) (hg : w.grownBy w' v.ownBlock) (hne : ∀ k, v.ownBlock = some k → k ≠ g) : Own w' g t cs := by
  have := hg.block g h.lt (fun e => hne g e.symm rfl)
  unfold Own at *
  rw [this]; exact h
theorem own_ne {w : World} {v v' : Value} {g : Nat} (h : v'.ownBlock = v.ownBlock ∨ v'.ownBlock = some w.heap.size) (hne : ∀ k, v.ownBlock = some k → k ≠ g) (hg : g < w.heap.size) : ∀ k, v'.ownBlock = some k → k ≠ g := fun k e => by
  rcases h with h | h
  · exact hne k (by rw [← h]; exact e)
  · rw [h] at e; injection e with e; omega

set_option maxRecDepth 100000 in
set_option maxHeartbeats 8000000 in
theorem stDone_any (fs l : List Chg) (nx0 : ByteArray) (v u : Value) (w : World) (ht : Tabs w) (hfs : ChgsAt [] w v fs) (hls : ChgsAt [] w u l) :
    Calls Tryd.prog 7 #[v, u, .string nx0] w fun e w' => e = .returned (.bool true) ∧ Kept w w' := by
  have HT := Lib.hid ht
  have HFS := Lib.hid hfs
  have HLS := Lib.hid hls
  have HFL := Lib.hid formD_len
  obtain ⟨FA, fc, rfl, hf1, hf2, hfr⟩ := hfs
  obtain ⟨LA, lc, rfl, hl1, hl2, hlr⟩ := hls
  unfold maxLen at hf2 hl2
  have HFR := Lib.hid hfr
  have HLR := Lib.hid hlr
  clear ht hfr hlr
  go_enter Tryd.func7, Tryd.ntmps7
  have K := Kept.refl w
  go_wp2_with fail
  refine (refs12_any fs _ _ (HFS.out.go K (Ext.refl _ _))).mono ?_
  rintro e w1 ⟨rw1, rfl, hk⟩
  replace K := K.trans hk
  clear hk
  rcases Bool.eq_false_or_eq_true (refsB fs) with hf | hf
  · rw [hf]
    go_wp2_with fail
    refine (refs12_any l _ _ (HLS.out.go K (Ext.refl _ _))).mono ?_
    rintro e w2 ⟨rw2, rfl, hk⟩
    replace K := K.trans hk
    clear hk
    rcases Bool.eq_false_or_eq_true (refsB l) with hl | hl
    · rw [hl]
      have HLL := Lib.hid (refs_len hl)
      clear hf hl
      go_wp2_with fail
      refine (format_any [] _ (fun _ h => by cases h)).mono ?_
      rintro e w3 ⟨s1, c1, rfl, hd1, hk⟩
      replace K := K.trans hk
      obtain ⟨A0, k0, B0, e0, rfl, rfl⟩ := hd1.form
      rw [HFL.out.1, HFL.out.2] at hd1 ⊢
      have HD := Lib.hid hd1
      clear hd1
      have hwk := K.size
      generalize hf0 : formD = d0 at *
      have HD0 := Lib.hid hf0
      clear hf0
      clear hk
      replace HD := Lib.hid (HD.out.go (Kept.refl _) (Ext.cons (Nat.le_refl _) (Ext.nil _ _)))
      go_upto_region 8 with fail
      have OD := Lib.hid (Own.new w3 25 [.slice A0 381 k0, .slice B0 0 e0])
      replace HD := Lib.hid (HD.out.go ((Kept.refl w3).alloc (.cells #[.slice A0 381 k0, .slice B0 0 e0] 25)) (Ext.refl _ _))
      replace K := K.alloc (.cells #[.slice A0 381 k0, .slice B0 0 e0] 25)
      generalize (w3.alloc (.cells #[.slice A0 381 k0, .slice B0 0 e0] 25)) = w4 at *
      generalize hgd : w3.heap.size = gd at *
      have HGD : Hid (w.heap.size ≤ gd) := by show _ ≤ _; omega
      clear hgd hwk
      go_wp2_with fail
      go_loopw [45] (fun iv wq => ∃ (k : Nat), k ≤ fs.length ∧ iv = .int .i64 k ∧ ∃ (A : Option Addr) (c : Nat) (B : Option Addr) (e : Nat), Own wq gd 25 [.slice A 381 c, .slice B 0 e] ∧ DkAt [gd] wq (.agg #[.slice A 381 c, .slice B 0 e]) (madeTo fs k) ∧ Kept w wq) (fun iv _ => fs.length - (intOf iv).toNat)
      case atStart => exact ⟨0, Nat.zero_le _, rfl, A0, k0, B0, e0, OD.out, (by show DkAt _ _ _ formD; rw [HD0.out]; exact HD.out), K⟩
      case round =>
        clear OD HD K
        obtain ⟨k, hk, rfl, A1, c1, B1, e1, hod, hhd, K⟩ := hrel
        have OD := Lib.hid hod
        have HD := Lib.hid hhd
        clear hod hhd
        by_cases hlt : k < fs.length
        · skip
          obtain ⟨cb, co, rfl, hcb, _, hcc⟩ := HFR.out (by rw [chg_len]; omega)
          have g0 := (K.cell (p := ⟨cb, co + k * 3, none⟩) hcb).trans (hcc (k * 3) _ ((chg_at hlt 0 (by omega)).trans rfl))
          have g1 := (K.cell (p := ⟨cb, co + k * 3 + 1, none⟩) hcb).trans (hcc (k * 3 + 1) _ ((chg_at hlt 1 (by omega)).trans rfl))
          have g2 := (K.cell (p := ⟨cb, co + k * 3 + 2, none⟩) hcb).trans (hcc (k * 3 + 2) _ ((chg_at hlt 2 (by omega)).trans rfl))
          clear hcc
          have HMS : Hid (madeTo fs (k + 1) = if (applyR (madeTo fs k) [fs[k]]).2 = 0 then (applyR (madeTo fs k) [fs[k]]).1 else madeTo fs k) := by
            show madeTo fs (k + 1) = _
            rw [madeTo, List.getElem?_eq_getElem hlt]
          have HGO := Lib.hid (made_good fs k)
          have HGN := Lib.hid (made_good fs (k + 1))
          generalize hdn : madeTo fs (k + 1) = dn at *
          have HDN := Lib.hid hdn
          clear hdn
          generalize madeTo fs k = dk at *
          generalize fs[k] = ch at *
          obtain ⟨nm, x, rm⟩ := ch
          simp only at g0 g1 g2
          generalize hcl : [(⟨nm, x, rm⟩ : Chg)] = cl at *
          have HCL := Lib.hid hcl
          clear hcl
          obtain ⟨cD0, cD1, fD0, fD1⟩ := OD.out.two
          have zd := OD.out.lt
          go_wp2_with fail
          clear cD0 cD1 fD0 fD1
          clear g0 g1 g2
          have OX := Lib.hid (Own.new1 wr (.cells #[.string nm, .string x, .bool rm] 69) 69 [.string nm, .string x, .bool rm])
          replace OD := Lib.hid ((OD.out.alloc (.cells #[.string nm, .string x, .bool rm] 69)).alloc (.cells #[.string nm, .string x, .bool rm] 69))
          replace HD := Lib.hid (HD.out.go (((Kept.refl wr).alloc (.cells #[.string nm, .string x, .bool rm] 69)).alloc (.cells #[.string nm, .string x, .bool rm] 69)) (Ext.refl _ _))
          replace K := (K.alloc (.cells #[.string nm, .string x, .bool rm] 69)).alloc (.cells #[.string nm, .string x, .bool rm] 69)
          generalize wr.heap.size + 1 = bx at *
          generalize ((wr.alloc (.cells #[.string nm, .string x, .bool rm] 69)).alloc (.cells #[.string nm, .string x, .bool rm] 69)) = wv at *
          have HCX : Hid (ChgsAt [] wv (.slice (some ⟨bx, 0, none⟩) 1 1) cl) := by rw [← HCL.out]; exact ⟨_, _, rfl, Nat.le_refl _, by decide, OX.out.row (by simp)⟩
          have hcn : cl.length ≤ 100 := by rw [← HCL.out]; simp
          clear OX
          refine (apply_any [gd] dk cl _ _ _ (HT.out.kept K) HD.out HCX.out (Old.cons OD.out.lt (fun _ h => by cases h)) (by rw [HGO.out.nil]; exact Nat.zero_le _) hcn).mono ?_
          rintro e w5 ⟨s2, c2, rfl, hd2, hk⟩
          replace OD := Lib.hid (OD.out.kept hk)
          replace HD := Lib.hid (HD.out.go hk (Ext.refl _ _))
          replace K := K.trans hk
          clear hcn HCX HCL
          clear hk
          by_cases he : (applyR dk cl).2 = 0
          · rw [if_pos he] at HMS
            rw [← HMS.out] at hd2
            rw [he]
            clear he
            obtain ⟨A2, k2, B2, e2, rfl, rfl⟩ := hd2.form
            rw [HGN.out.len, HGN.out.nil] at hd2 ⊢
            dsimp only [List.length_nil] at hd2 ⊢
            have HD2 := Lib.hid hd2
            clear hd2 HD HMS HGO HGN
            go_upto_region 12 with fail
            replace OD := Lib.hid (OD.out.alloc (.cells #[.slice A2 381 k2, .slice B2 0 e2] 25))
            have OY := Lib.hid (Own.new w5 25 [.slice A2 381 k2, .slice B2 0 e2])
            replace HD2 := Lib.hid (HD2.out.go ((Kept.refl w5).alloc (.cells #[.slice A2 381 k2, .slice B2 0 e2] 25)) (Ext.refl _ _))
            replace K := K.alloc (.cells #[.slice A2 381 k2, .slice B2 0 e2] 25)
            generalize (w5.alloc (.cells #[.slice A2 381 k2, .slice B2 0 e2] 25)) = w6 at *
            have zy := OY.out.lt
            have zg := OD.out.lt
            obtain ⟨cD0, cD1, fD0, fD1⟩ := OD.out.two
            obtain ⟨cY0, cY1, fY0, fY1⟩ := OY.out.two
            go_wp2
            clear OY
            clear cD0 cD1 fD0 fD1 cY0 cY1 fY0 fY1
            go_roundw
            case rel => exact ⟨k + 1, by omega, by go_num, A2, k2, B2, e2, (OD.out.set_ 0 _).set_ 1 _, (by rw [HDN.out]; exact (HD2.out.put (p := ⟨gd, 0, none⟩) (by simp) _).put (p := ⟨gd, 1, none⟩) (by simp) _), (K.setCell (p := ⟨gd, 0, none⟩) HGD.out _).setCell (p := ⟨gd, 1, none⟩) HGD.out _⟩
            case measure => simp [intOf]; omega
          · rw [if_neg he] at HMS
            clear HGN
            have t1 := beq_f he
            generalize (applyR dk cl).2 = code at *
            clear he
            obtain ⟨A2, k2, B2, e2, rfl, rfl⟩ := hd2.form
            generalize (applyR dk cl).1.sec.length = n2 at *
            generalize (applyR dk cl).1.cache.length = m2 at *
            clear hd2
            obtain ⟨cD0, cD1, fD0, fD1⟩ := OD.out.two
            have zg := OD.out.lt
            go_wp2
            clear cD0 cD1 fD0 fD1
            go_roundw
            case rel => exact ⟨k + 1, by omega, by go_num, A1, c1, B1, e1, OD.out.alloc _, (by rw [HDN.out, HMS.out]; exact HD.out.go ((Kept.refl _).alloc _) (Ext.refl _ _)), K.alloc _⟩
            case measure => simp [intOf]; omega
        · obtain rfl : k = fs.length := by omega
          have HG := Lib.hid (made_good fs fs.length)
          generalize madeTo fs fs.length = dd at *
          obtain ⟨cD0, cD1, fD0, fD1⟩ := OD.out.two
          go_wp2_with fail
          refine (apply_any [] dd l _ _ _ (HT.out.kept K) (HD.out.weak (fun _ hk => by cases hk)) (HLS.out.go K (Ext.refl _ _)) (fun _ h => by cases h) (by rw [HG.out.nil]; exact Nat.zero_le _) (by have := HLL.out; omega)).mono ?_
          rintro e w5 ⟨s5, c5, rfl, hd5, hk⟩
          clear cD0 cD1 fD0 fD1
          replace OD := Lib.hid (OD.out.kept hk)
          replace HD := Lib.hid (HD.out.go hk (Ext.refl _ _))
          replace K := K.trans hk
          obtain ⟨A5, k5, B5, e5, rfl, rfl⟩ := hd5.form
          clear hk
          by_cases he : (applyR dd l).2 = 0
          · rw [he]
            obtain ⟨hgx, hrd⟩ := apply_good HG.out he
            have HGX := Lib.hid hgx
            have HLW := Lib.hid (done_law HG.out hgx hrd)
            clear he hgx hrd
            generalize (applyR dd l).1 = xn at *
            rw [HGX.out.len, HGX.out.nil] at hd5 ⊢
            dsimp only [List.length_nil] at hd5 ⊢
            have HDX := Lib.hid hd5
            clear hd5
            go_upto_region 18 with fail
            replace OD := Lib.hid (OD.out.alloc (.cells #[.slice A5 381 k5, .slice B5 0 e5] 25))
            have OY := Lib.hid (Own.new w5 25 [.slice A5 381 k5, .slice B5 0 e5])
            replace HD := Lib.hid (HD.out.go ((Kept.refl w5).alloc (.cells #[.slice A5 381 k5, .slice B5 0 e5] 25)) (Ext.refl _ _))
            replace HDX := Lib.hid (HDX.out.go ((Kept.refl w5).alloc (.cells #[.slice A5 381 k5, .slice B5 0 e5] 25)) (Ext.refl _ _))
            replace K := K.alloc (.cells #[.slice A5 381 k5, .slice B5 0 e5] 25)
            generalize (w5.alloc (.cells #[.slice A5 381 k5, .slice B5 0 e5] 25)) = w6 at *
            have hn1 := names_le dd
            have hn2 := names_le xn
            generalize hN1 : namesR dd = N1 at *
            generalize hN2 : namesR xn = N2 at *
            have HN1 := Lib.hid hN1
            have HN2 := Lib.hid hN2
            clear hN1 hN2
            have CD0 : ∀ W', Kept w6 W' → W'.cell? ⟨gd, 0, none⟩ = some (.slice A1 381 c1) := fun W' hk => (OD.out.kept hk).cell? 0
            have CD1 : ∀ W', Kept w6 W' → W'.cell? ⟨gd, 1, none⟩ = some (.slice B1 0 e1) := fun W' hk => (OD.out.kept hk).cell? 1
            have CY0 : ∀ W', Kept w6 W' → W'.cell? ⟨w5.heap.size, 0, none⟩ = some (.slice A5 381 k5) := fun W' hk => (OY.out.kept hk).cell? 0
            have CY1 : ∀ W', Kept w6 W' → W'.cell? ⟨w5.heap.size, 1, none⟩ = some (.slice B5 0 e5) := fun W' hk => (OY.out.kept hk).cell? 1
            refine wp_region_Z (S := fun W' => Kept w6 W') (Z := []) (by kernel_rfl) ((Kept.refl w6).drew) (fun hHeld => ?_)
            have kr := (Kept.refl w6).drew
            have Kr := K
            have zr := K.size
            have ODr := OD
            have OYr := OY
            have HDr := HD
            have HDXr := HDX
            replace OD := Lib.hid (ODr.out.kept kr)
            replace OY := Lib.hid (OYr.out.kept kr)
            replace HD := Lib.hid (HDr.out.go kr (Ext.refl _ _))
            replace HDX := Lib.hid (HDXr.out.go kr (Ext.refl _ _))
            replace K := Kr.trans kr
            generalize w6.drew = w7 at *
            refine wpAnyZ_take (i := 0) (oi := { dst := some 75, op := Op.load 25 (Operand.tmp 11), type := 25, pos := "law.go:140", after := #[], guard := none }) (v := ?_) rfl (by kernel_rfl) (fun _ _ _ h => h) (Or.inl ⟨by rfl, ?_⟩) (by assumption) ?_
            rotate_left
            · (intro wz hSw; (try dsimp only at hSw); go_simp; (try with_reducible rfl))
            (try simp only [Act.put, List.setIfInBounds_toArray, List.set_cons_zero, List.set_cons_succ])
            refine wpAnyZ_take (i := 2) (oi := { dst := some 77, op := Op.load 25 (Operand.tmp 16), type := 25, pos := "law.go:140", after := #[], guard := none }) (v := ?_) rfl (by kernel_rfl) (fun _ _ _ h => h) (Or.inl ⟨by rfl, ?_⟩) (by assumption) ?_
            rotate_left
            · (intro wz hSw; (try dsimp only at hSw); go_simp; (try with_reducible rfl))
            (try simp only [Act.put, List.setIfInBounds_toArray, List.set_cons_zero, List.set_cons_succ])
            refine wpAnyZ_take (i := 5) (oi := { dst := some 80, op := Op.move (Operand.tmp 2), type := 9, pos := "law.go:140", after := #[], guard := none }) (v := ?_) rfl (by kernel_rfl) (fun _ _ _ h => h) (Or.inl ⟨by rfl, ?_⟩) (by assumption) ?_
            rotate_left
            · (intro wz hSw; (try dsimp only at hSw); go_simp; (try with_reducible rfl))
            (try simp only [Act.put, List.setIfInBounds_toArray, List.set_cons_zero, List.set_cons_succ])
            refine wpAnyZ_take (i := 9) (oi := { dst := some 84, op := Op.move (Operand.const (Value.int IntKind.i64 0)), type := 3, pos := "law.go:140", after := #[], guard := none }) (v := ?_) rfl (by kernel_rfl) (fun _ _ _ h => h) (Or.inl ⟨by rfl, ?_⟩) (by assumption) ?_
            rotate_left
            · (intro wz hSw; (try dsimp only at hSw); go_simp; (try with_reducible rfl))
            (try simp only [Act.put, List.setIfInBounds_toArray, List.set_cons_zero, List.set_cons_succ])
            refine wpAnyZ_ready (rs := [1, 6]) (by kernel_rfl) (by simp) ?_
            refine AllReadyZ.cons (o := { dst := some 76, op := Op.call { callee := Callee.value (Operand.func 35), args := #[Operand.tmp 75], argTypes := #[25] }, type := 22, pos := "law.go:140", after := #[{ on := 0, ground := Ground.data }], guard := none }) rfl (fun KK hKK => ?_) ?_
            · skip
              go_simp
              refine (names_own dd _ _ (HD.out.weak (fun _ hk => by cases hk))).mono ?_
              rintro e w8 ⟨rA, rfl, hr1, hk⟩
              clear hHeld
              rw [HN1.out] at hr1
              have HA : Hid (World.ownsRow w8 w6.heap.size 9 1 rA N1.length (N1.flatMap sC)) := by show World.ownsRow _ _ _ _ _ _ _; rw [← strs_sC]; exact own_low hr1 kr.size
              clear hr1
              replace kr := kr.trans hk
              replace OD := Lib.hid (ODr.out.kept kr)
              replace OY := Lib.hid (OYr.out.kept kr)
              replace HD := Lib.hid (HDr.out.go kr (Ext.refl _ _))
              replace HDX := Lib.hid (HDXr.out.go kr (Ext.refl _ _))
              replace K := Kr.trans kr
              clear hk
              go_wp2_with fail
              refine hKK.out _ _ ?_ (fun hHeld => ?_)
              · exact kr
              clear hKK KK
              (try simp only [Act.put, List.setIfInBounds_toArray, List.set_cons_zero, List.set_cons_succ])
              refine wpAnyZ_ready (rs := [3, 6]) (by kernel_rfl) (by simp) ?_
              refine AllReadyZ.cons (o := { dst := some 78, op := Op.call { callee := Callee.value (Operand.func 35), args := #[Operand.tmp 77], argTypes := #[25] }, type := 22, pos := "law.go:140", after := #[{ on := 2, ground := Ground.data }, { on := 1, ground := Ground.chain }], guard := none }) rfl (fun KK hKK => ?_) ?_
              · skip
                go_simp
                refine (names_own xn _ _ (HDX.out.weak (fun _ hk => by cases hk))).mono ?_
                rintro e w9 ⟨rB, rfl, hr2, hk⟩
                clear hHeld
                rw [HN2.out] at hr2
                have HB := Lib.hid (strsAt_row (V := []) hr2 (fun _ h => by cases h))
                clear hr2
                obtain ⟨QB, qb, rfl, _, _, _⟩ := HB.out
                replace HA := Lib.hid (ownsRow_kept HA.out hk)
                replace kr := kr.trans hk
                replace OD := Lib.hid (ODr.out.kept kr)
                replace OY := Lib.hid (OYr.out.kept kr)
                replace HD := Lib.hid (HDr.out.go kr (Ext.refl _ _))
                replace HDX := Lib.hid (HDXr.out.go kr (Ext.refl _ _))
                replace K := Kr.trans kr
                clear hk
                go_wp2_with fail
                refine hKK.out _ _ ?_ (fun hHeld => ?_)
                · exact kr
                clear hKK KK
                (try simp only [Act.put, List.setIfInBounds_toArray, List.set_cons_zero, List.set_cons_succ])
                refine wpAnyZ_ready (rs := [4, 6]) (by kernel_rfl) (by simp) ?_
                refine AllReadyZ.cons (o := { dst := some 79, op := Op.call { callee := Callee.builtin Builtin.append, args := #[Operand.tmp 76, Operand.tmp 78], argTypes := #[22, 22] }, type := 22, pos := "law.go:140", after := #[{ on := 1, ground := Ground.data }, { on := 3, ground := Ground.data }, { on := 3, ground := Ground.chain }], guard := none }) rfl (fun KK hKK => ?_) ?_
                · skip
                  refine Tryd.elS.step_app rfl _ _ rfl w6.heap.size rA N1 rfl HA.out [] QB qb N2 rfl (by obtain ⟨_, _, e9, _, _, h9⟩ := HB.out; cases e9; rw [← strs_sC]; exact h9) (sC_one _) (by unfold maxLen; omega) (by omega) kr.size ?_
                  intro vA w10 hap hgr hat
                  replace kr := kr.grown hgr (fun k e => (HA.out.lt k e).1)
                  clear hHeld
                  replace OD := Lib.hid (ODr.out.kept kr)
                  replace OY := Lib.hid (OYr.out.kept kr)
                  replace HD := Lib.hid (HDr.out.go kr (Ext.refl _ _))
                  replace HDX := Lib.hid (HDXr.out.go kr (Ext.refl _ _))
                  replace K := Kr.trans kr
                  clear HA HB
                  have HA := Lib.hid hap
                  obtain ⟨AA, cA, rfl, _, _, _⟩ := own_form (V := []) hap (by simp)
                  clear hap hgr hat
                  have hnA : (N1 ++ N2).length ≤ 64 := by rw [List.length_append]; omega
                  generalize N1 ++ N2 = NN at *
                  generalize hnA2 : NN.length = nA at *
                  have HNA := Lib.hid hnA2
                  clear hnA2
                  refine hKK.out _ _ ?_ (fun hHeld => ?_)
                  · exact kr
                  clear hKK KK
                  (try simp only [Act.put, List.setIfInBounds_toArray, List.set_cons_zero, List.set_cons_succ])
                  refine wpAnyZ_ready (rs := [6]) (by kernel_rfl) (by simp) ?_
                  refine AllReadyZ.cons (o := { dst := some 81, op := Op.buildSlice 22 1 #[(0, Operand.tmp 80)], type := 22, pos := "law.go:140", after := #[{ on := 5, ground := Ground.data }], guard := none }) rfl (fun KK hKK => ?_) AllReadyZ.nil
                  go_simp
                  have hnx : ∀ k, (Value.slice AA nA cA).ownBlock = some k → k ≠ w10.heap.size := fun k e => by have := (HA.out.lt k e).2; omega
                  have OX := Lib.hid (Own.new w10 9 [.string nx0])
                  replace HA := Lib.hid (ownsRow_kept HA.out ((Kept.refl _).alloc (.cells #[.string nx0] 9)))
                  replace kr := kr.alloc (.cells #[.string nx0] 9)
                  clear hHeld
                  replace OD := Lib.hid (ODr.out.kept kr)
                  replace OY := Lib.hid (OYr.out.kept kr)
                  replace HD := Lib.hid (HDr.out.go kr (Ext.refl _ _))
                  replace HDX := Lib.hid (HDXr.out.go kr (Ext.refl _ _))
                  replace K := Kr.trans kr
                  generalize (w10.alloc (.cells #[.string nx0] 9)) = w11 at *
                  generalize w10.heap.size = bX at *
                  refine hKK.out _ _ ?_ (fun hHeld => ?_)
                  · exact kr
                  clear hKK KK
                  (try simp only [Act.put, List.setIfInBounds_toArray, List.set_cons_zero, List.set_cons_succ])
                  refine wpAnyZ_ready (rs := [7]) (by kernel_rfl) (by simp) ?_
                  refine AllReadyZ.cons (o := { dst := some 82, op := Op.call { callee := Callee.builtin Builtin.append, args := #[Operand.tmp 79, Operand.tmp 81], argTypes := #[22, 22] }, type := 22, pos := "law.go:140", after := #[{ on := 4, ground := Ground.data }, { on := 6, ground := Ground.data }, { on := 4, ground := Ground.chain }], guard := none }) rfl (fun KK hKK => ?_) AllReadyZ.nil
                  refine Tryd.elS.step_app rfl _ _ rfl w6.heap.size (.slice AA nA cA) NN rfl (by rw [HNA.out]; exact HA.out) [] (some ⟨bX, 0, none⟩) 1 [nx0] rfl (OX.out.row (by simp)) (sC_one _) (by rw [HNA.out]; unfold maxLen; simp only [List.length_cons, List.length_nil]; omega) (by rw [HNA.out]; simp only [List.length_cons, List.length_nil]; omega) kr.size ?_
                  intro vZ w12 hap hgr hat
                  replace kr := kr.grown hgr (fun k e => (HA.out.lt k e).1)
                  clear hHeld
                  replace OD := Lib.hid (ODr.out.kept kr)
                  replace OY := Lib.hid (OYr.out.kept kr)
                  replace HD := Lib.hid (HDr.out.go kr (Ext.refl _ _))
                  replace HDX := Lib.hid (HDXr.out.go kr (Ext.refl _ _))
                  replace K := Kr.trans kr
                  clear HA OX hnx
                  have HA := Lib.hid hap
                  obtain ⟨AZ, cZ, rfl, _, _, _⟩ := own_form (V := []) hap (by simp)
                  clear hap hgr hat
                  have hnZ : (NN ++ [nx0]).length ≤ 65 := by rw [List.length_append, HNA.out]; simp only [List.length_cons, List.length_nil]; omega
                  clear hnA
                  generalize NN ++ [nx0] = NZ at *
                  generalize hnZ2 : NZ.length = nZ at *
                  have HNZ := Lib.hid hnZ2
                  clear hnZ2 HNA
                  refine hKK.out _ _ ?_ (fun hHeld => ?_)
                  · exact kr
                  clear hKK KK
                  (try simp only [Act.put, List.setIfInBounds_toArray, List.set_cons_zero, List.set_cons_succ])
                  refine wpAnyZ_take (i := 8) (oi := { dst := some 83, op := Op.call { callee := Callee.builtin Builtin.len, args := #[Operand.tmp 82], argTypes := #[22] }, type := 3, pos := "law.go:140", after := #[{ on := 7, ground := Ground.data }], guard := none }) (v := ?_) rfl (by kernel_rfl) (fun _ _ _ h => h) (Or.inl ⟨by rfl, ?_⟩) (by assumption) ?_
                  rotate_left
                  · (intro wz hSw; (try dsimp only at hSw); go_simp; (try with_reducible rfl))
                  (try simp only [Act.put, List.setIfInBounds_toArray, List.set_cons_zero, List.set_cons_succ])
                  refine wpAnyZ_done (by kernel_rfl) ?_ _
                  clear CD0 CD1 CY0 CY1 ODr OYr HDr HDXr Kr zr hHeld kr
                  have HS9 := strsAt_row (V := []) (l := NZ) (by rw [strs_sC, HNZ.out]; exact HA.out) (fun _ h => by cases h)
                  obtain ⟨_, _, e9, h91, h92, h93⟩ := HS9
                  cases e9
                  unfold maxLen at h92
                  have HNR := Lib.hid h93
                  clear h93 HA
                  go_wp2_with fail
                  go_loopw [84] (fun iv wq => ∃ (k : Nat), k ≤ NZ.length ∧ iv = .int .i64 k ∧ Kept w12 wq) (fun iv _ => NZ.length - (intOf iv).toNat)
                  case atStart => exact ⟨0, Nat.zero_le _, rfl, Kept.refl _⟩
                  case round =>
                    obtain ⟨k, hk, rfl, K9⟩ := hrel
                    replace OD := Lib.hid (OD.out.kept K9)
                    replace OY := Lib.hid (OY.out.kept K9)
                    replace HD := Lib.hid (HD.out.go K9 (Ext.refl _ _))
                    replace HDX := Lib.hid (HDX.out.go K9 (Ext.refl _ _))
                    by_cases hlt : k < NZ.length
                    · have hlt2 : k < NZ.length := hlt
                      obtain ⟨b, o, rfl, hb, _, hcs⟩ := (HNR.out.kept K9) (by rw [strs_length]; omega)
                      have g1 : wr.cell? ⟨b, o + k, none⟩ = some (.string NZ[k]) := hcs _ _ (strs_at hlt2)
                      clear hcs
                      generalize NZ[k] = n at *
                      clear hlt2
                      have HL1 := Lib.hid (HLW.out n)
                      have hs1 : Hid (getR dd n = ((getR dd n).1, (getR dd n).2)) := rfl
                      generalize hr1 : getR dd n = r1 at *
                      generalize hr2 : getR xn n = r2 at *
                      generalize hr3 : lastL n l = r3 at *
                      have HR1 := Lib.hid hr1
                      have HR2 := Lib.hid hr2
                      have HR3 := Lib.hid hr3
                      clear hr1 hr2 hr3 hs1
                      obtain ⟨⟨cn, cx, cg⟩, cb⟩ := r3
                      obtain ⟨s1, c1⟩ := r1
                      obtain ⟨s2, c2⟩ := r2
                      obtain ⟨cD0, cD1, fD0, fD1⟩ := OD.out.two
                      obtain ⟨cY0, cY1, fY0, fY1⟩ := OY.out.two
                      go_wp2_with fail
                      refine (says_any dd n _ _ (HD.out.weak (fun _ hk => by cases hk))).mono ?_
                      rintro e w13 ⟨rfl, hk⟩
                      clear cD0 cD1 fD0 fD1 cY0 cY1 fY0 fY1
                      replace OD := Lib.hid (OD.out.kept hk)
                      replace OY := Lib.hid (OY.out.kept hk)
                      replace HD := Lib.hid (HD.out.go hk (Ext.refl _ _))
                      replace HDX := Lib.hid (HDX.out.go hk (Ext.refl _ _))
                      replace K9 := K9.trans hk
                      rw [HR1.out]
                      clear hk
                      obtain ⟨cD0, cD1, fD0, fD1⟩ := OD.out.two
                      obtain ⟨cY0, cY1, fY0, fY1⟩ := OY.out.two
                      go_wp2_with fail
                      refine (says_any xn n _ _ HDX.out).mono ?_
                      rintro e w14 ⟨rfl, hk⟩
                      clear cD0 cD1 fD0 fD1 cY0 cY1 fY0 fY1
                      replace OD := Lib.hid (OD.out.kept hk)
                      replace OY := Lib.hid (OY.out.kept hk)
                      replace HD := Lib.hid (HD.out.go hk (Ext.refl _ _))
                      replace HDX := Lib.hid (HDX.out.go hk (Ext.refl _ _))
                      replace K9 := K9.trans hk
                      rw [HR2.out]
                      clear hk
                      obtain ⟨cD0, cD1, fD0, fD1⟩ := OD.out.two
                      obtain ⟨cY0, cY1, fY0, fY1⟩ := OY.out.two
                      go_wp2_with fail
                      refine (last_any l n _ _ (HLS.out.go (K.trans K9) (Ext.refl _ _))).mono ?_
                      rintro e w15 ⟨rfl, hk⟩
                      clear cD0 cD1 fD0 fD1 cY0 cY1 fY0 fY1
                      replace OD := Lib.hid (OD.out.kept hk)
                      replace OY := Lib.hid (OY.out.kept hk)
                      replace HD := Lib.hid (HD.out.go hk (Ext.refl _ _))
                      replace HDX := Lib.hid (HDX.out.go hk (Ext.refl _ _))
                      replace K9 := K9.trans hk
                      rw [HR3.out]
                      dsimp only [chgC] at HL1 ⊢
                      clear hk
                      cases cb with
                      | false =>
                        have he := HL1.out.1 rfl
                        injection he with he1 he2
                        subst he1 he2
                        clear HL1
                        generalize (c2 == 0) = hb at *
                        cases hb with
                        | true =>
                          go_wp2
                          go_roundw
                          case rel => exact ⟨k + 1, by omega, by go_num, K9.alloc _⟩
                          case measure => simp [intOf]; omega
                        | false =>
                          go_wp2
                          go_roundw
                          case rel => exact ⟨k + 1, by omega, by go_num, K9.alloc _⟩
                          case measure => simp [intOf]; omega
                      | true =>
                        cases cg with
                        | true =>
                          have he := HL1.out.2.1 rfl rfl
                          injection he with he1 he2
                          subst he1 he2
                          clear HL1
                          go_upto_region 25 with fail
                          replace OD := Lib.hid (OD.out.alloc (.cells #[.string cn, .string cx, .bool true] 69))
                          replace OY := Lib.hid (OY.out.alloc (.cells #[.string cn, .string cx, .bool true] 69))
                          have OC := Lib.hid (Own.new w15 69 [.string cn, .string cx, .bool true])
                          replace HD := Lib.hid (HD.out.go ((Kept.refl w15).alloc (.cells #[.string cn, .string cx, .bool true] 69)) (Ext.refl _ _))
                          replace HDX := Lib.hid (HDX.out.go ((Kept.refl w15).alloc (.cells #[.string cn, .string cx, .bool true] 69)) (Ext.refl _ _))
                          replace K9 := K9.alloc (.cells #[.string cn, .string cx, .bool true] 69)
                          generalize (w15.alloc (.cells #[.string cn, .string cx, .bool true] 69)) = w16 at *
                          have CC0 : ∀ W', Kept w16 W' → W'.cell? ⟨w15.heap.size, 0, none⟩ = some (.string cn) := fun W' hk => (OC.out.kept hk).cell? 0
                          have CC1 : ∀ W', Kept w16 W' → W'.cell? ⟨w15.heap.size, 1, none⟩ = some (.string cx) := fun W' hk => (OC.out.kept hk).cell? 1
                          have CC2 : ∀ W', Kept w16 W' → W'.cell? ⟨w15.heap.size, 2, none⟩ = some (.bool true) := fun W' hk => (OC.out.kept hk).cell? 2
                          refine wp_region_Z (S := fun W' => Kept w16 W') (Z := []) (by kernel_rfl) ((Kept.refl w16).drew) (fun hHeld => ?_)
                          have kr := (Kept.refl w16).drew
                          have K9r := K9
                          have zr := K9.size
                          have ODr := OD
                          have OYr := OY
                          have OCr := OC
                          have HDr := HD
                          have HDXr := HDX
                          replace OD := Lib.hid (ODr.out.kept kr)
                          replace OY := Lib.hid (OYr.out.kept kr)
                          replace OC := Lib.hid (OCr.out.kept kr)
                          replace HD := Lib.hid (HDr.out.go kr (Ext.refl _ _))
                          replace HDX := Lib.hid (HDXr.out.go kr (Ext.refl _ _))
                          replace K9 := K9r.trans kr
                          generalize w16.drew = w17 at *
                          refine wpAnyZ_take (i := 0) (oi := { dst := some 107, op := Op.fieldAddr 69 (Operand.tmp 24) 1, type := 0, pos := "law.go:145", after := #[], guard := none }) (v := ?_) rfl (by kernel_rfl) (fun _ _ _ h => h) (Or.inl ⟨by rfl, ?_⟩) (by assumption) ?_
                          rotate_left
                          · (intro wz hSw; (try dsimp only at hSw); go_simp; (try with_reducible rfl))
                          (try simp only [Act.put, List.setIfInBounds_toArray, List.set_cons_zero, List.set_cons_succ])
                          refine wpAnyZ_take (i := 1) (oi := { dst := some 108, op := Op.load 9 (Operand.tmp 107), type := 9, pos := "law.go:145", after := #[{ on := 0, ground := Ground.data }], guard := none }) (v := ?_) rfl (by kernel_rfl) (fun _ _ _ h => h) (Or.inl ⟨by rfl, ?_⟩) (by assumption) ?_
                          rotate_left
                          · (intro wz hSw; (try dsimp only at hSw); go_simp; (try with_reducible rfl))
                          (try simp only [Act.put, List.setIfInBounds_toArray, List.set_cons_zero, List.set_cons_succ])
                          refine wpAnyZ_take (i := 2) (oi := { dst := some 109, op := Op.fieldAddr 69 (Operand.tmp 24) 2, type := 0, pos := "law.go:145", after := #[{ on := 5, ground := Ground.gcOnly Departure.lateStores }], guard := none }) (v := ?_) rfl (by kernel_rfl) (fun _ _ _ h => h) (Or.inl ⟨by rfl, ?_⟩) (by assumption) ?_
                          rotate_left
                          · (intro wz hSw; (try dsimp only at hSw); go_simp; (try with_reducible rfl))
                          (try simp only [Act.put, List.setIfInBounds_toArray, List.set_cons_zero, List.set_cons_succ])
                          refine wpAnyZ_take (i := 3) (oi := { dst := some 110, op := Op.load 4 (Operand.tmp 109), type := 4, pos := "law.go:145", after := #[{ on := 2, ground := Ground.data }, { on := 5, ground := Ground.gcOnly Departure.lateStores }], guard := none }) (v := ?_) rfl (by kernel_rfl) (fun _ _ _ h => h) (Or.inl ⟨by rfl, ?_⟩) (by assumption) ?_
                          rotate_left
                          · (intro wz hSw; (try dsimp only at hSw); go_simp; (try with_reducible rfl))
                          (try simp only [Act.put, List.setIfInBounds_toArray, List.set_cons_zero, List.set_cons_succ])
                          refine wpAnyZ_take (i := 4) (oi := { dst := some 111, op := Op.unOp UnOp.not 4 (Operand.tmp 110), type := 4, pos := "law.go:145", after := #[{ on := 3, ground := Ground.data }, { on := 5, ground := Ground.gcOnly Departure.lateStores }], guard := none }) (v := ?_) rfl (by kernel_rfl) (fun _ _ _ h => h) (Or.inl ⟨by rfl, ?_⟩) (by assumption) ?_
                          rotate_left
                          · (intro wz hSw; (try dsimp only at hSw); go_simp; (try with_reducible rfl))
                          (try simp only [Act.put, List.setIfInBounds_toArray, List.set_cons_zero, List.set_cons_succ])
                          refine wpAnyZ_take (i := 5) (oi := { dst := some 20, op := Op.assign (Operand.tmp 108), type := 9, pos := "law.go:145", after := #[{ on := 1, ground := Ground.data }, { on := 0, ground := Ground.phase }, { on := 1, ground := Ground.phase }, { on := 2, ground := Ground.textOnly Departure.lateStores }, { on := 3, ground := Ground.textOnly Departure.lateStores }, { on := 4, ground := Ground.textOnly Departure.lateStores }], guard := none }) (v := ?_) rfl (by kernel_rfl) (fun _ _ _ h => h) (Or.inl ⟨by rfl, ?_⟩) (by assumption) ?_
                          rotate_left
                          · (intro wz hSw; (try dsimp only at hSw); go_simp; (try with_reducible rfl))
                          (try simp only [Act.put, List.setIfInBounds_toArray, List.set_cons_zero, List.set_cons_succ])
                          refine wpAnyZ_take (i := 6) (oi := { dst := some 21, op := Op.assign (Operand.tmp 111), type := 4, pos := "law.go:145", after := #[{ on := 4, ground := Ground.data }, { on := 5, ground := Ground.chain }, { on := 0, ground := Ground.phase }, { on := 1, ground := Ground.phase }, { on := 2, ground := Ground.phase }, { on := 3, ground := Ground.phase }, { on := 4, ground := Ground.phase }, { on := 5, ground := Ground.phase }], guard := none }) (v := ?_) rfl (by kernel_rfl) (fun _ _ _ h => h) (Or.inl ⟨by rfl, ?_⟩) (by assumption) ?_
                          rotate_left
                          · (intro wz hSw; (try dsimp only at hSw); go_simp; (try with_reducible rfl))
                          (try simp only [Act.put, List.setIfInBounds_toArray, List.set_cons_zero, List.set_cons_succ])
                          refine wpAnyZ_done (by kernel_rfl) ?_ _
                          clear CC0 CC1 CC2 ODr OYr OCr HDr HDXr K9r zr hHeld kr
                          obtain ⟨cC0, cC1, cC2, fC0, fC1, fC2⟩ := OC.out.three
                          go_wp2
                          go_roundw
                          case rel => exact ⟨k + 1, by omega, by go_num, K9⟩
                          case measure => simp [intOf]; omega
                        | false =>
                          have he := HL1.out.2.2 rfl rfl
                          injection he with he1 he2
                          subst he1 he2
                          clear HL1
                          go_upto_region 25 with fail
                          replace OD := Lib.hid (OD.out.alloc (.cells #[.string cn, .string s2, .bool false] 69))
                          replace OY := Lib.hid (OY.out.alloc (.cells #[.string cn, .string s2, .bool false] 69))
                          have OC := Lib.hid (Own.new w15 69 [.string cn, .string s2, .bool false])
                          replace HD := Lib.hid (HD.out.go ((Kept.refl w15).alloc (.cells #[.string cn, .string s2, .bool false] 69)) (Ext.refl _ _))
                          replace HDX := Lib.hid (HDX.out.go ((Kept.refl w15).alloc (.cells #[.string cn, .string s2, .bool false] 69)) (Ext.refl _ _))
                          replace K9 := K9.alloc (.cells #[.string cn, .string s2, .bool false] 69)
                          generalize (w15.alloc (.cells #[.string cn, .string s2, .bool false] 69)) = w16 at *
                          have CC0 : ∀ W', Kept w16 W' → W'.cell? ⟨w15.heap.size, 0, none⟩ = some (.string cn) := fun W' hk => (OC.out.kept hk).cell? 0
                          have CC1 : ∀ W', Kept w16 W' → W'.cell? ⟨w15.heap.size, 1, none⟩ = some (.string s2) := fun W' hk => (OC.out.kept hk).cell? 1
                          have CC2 : ∀ W', Kept w16 W' → W'.cell? ⟨w15.heap.size, 2, none⟩ = some (.bool false) := fun W' hk => (OC.out.kept hk).cell? 2
                          refine wp_region_Z (S := fun W' => Kept w16 W') (Z := []) (by kernel_rfl) ((Kept.refl w16).drew) (fun hHeld => ?_)
                          have kr := (Kept.refl w16).drew
                          have K9r := K9
                          have zr := K9.size
                          have ODr := OD
                          have OYr := OY
                          have OCr := OC
                          have HDr := HD
                          have HDXr := HDX
                          replace OD := Lib.hid (ODr.out.kept kr)
                          replace OY := Lib.hid (OYr.out.kept kr)
                          replace OC := Lib.hid (OCr.out.kept kr)
                          replace HD := Lib.hid (HDr.out.go kr (Ext.refl _ _))
                          replace HDX := Lib.hid (HDXr.out.go kr (Ext.refl _ _))
                          replace K9 := K9r.trans kr
                          generalize w16.drew = w17 at *
                          refine wpAnyZ_take (i := 0) (oi := { dst := some 107, op := Op.fieldAddr 69 (Operand.tmp 24) 1, type := 0, pos := "law.go:145", after := #[], guard := none }) (v := ?_) rfl (by kernel_rfl) (fun _ _ _ h => h) (Or.inl ⟨by rfl, ?_⟩) (by assumption) ?_
                          rotate_left
                          · (intro wz hSw; (try dsimp only at hSw); go_simp; (try with_reducible rfl))
                          (try simp only [Act.put, List.setIfInBounds_toArray, List.set_cons_zero, List.set_cons_succ])
                          refine wpAnyZ_take (i := 1) (oi := { dst := some 108, op := Op.load 9 (Operand.tmp 107), type := 9, pos := "law.go:145", after := #[{ on := 0, ground := Ground.data }], guard := none }) (v := ?_) rfl (by kernel_rfl) (fun _ _ _ h => h) (Or.inl ⟨by rfl, ?_⟩) (by assumption) ?_
                          rotate_left
                          · (intro wz hSw; (try dsimp only at hSw); go_simp; (try with_reducible rfl))
                          (try simp only [Act.put, List.setIfInBounds_toArray, List.set_cons_zero, List.set_cons_succ])
                          refine wpAnyZ_take (i := 2) (oi := { dst := some 109, op := Op.fieldAddr 69 (Operand.tmp 24) 2, type := 0, pos := "law.go:145", after := #[{ on := 5, ground := Ground.gcOnly Departure.lateStores }], guard := none }) (v := ?_) rfl (by kernel_rfl) (fun _ _ _ h => h) (Or.inl ⟨by rfl, ?_⟩) (by assumption) ?_
                          rotate_left
                          · (intro wz hSw; (try dsimp only at hSw); go_simp; (try with_reducible rfl))
                          (try simp only [Act.put, List.setIfInBounds_toArray, List.set_cons_zero, List.set_cons_succ])
                          refine wpAnyZ_take (i := 3) (oi := { dst := some 110, op := Op.load 4 (Operand.tmp 109), type := 4, pos := "law.go:145", after := #[{ on := 2, ground := Ground.data }, { on := 5, ground := Ground.gcOnly Departure.lateStores }], guard := none }) (v := ?_) rfl (by kernel_rfl) (fun _ _ _ h => h) (Or.inl ⟨by rfl, ?_⟩) (by assumption) ?_
                          rotate_left
                          · (intro wz hSw; (try dsimp only at hSw); go_simp; (try with_reducible rfl))
                          (try simp only [Act.put, List.setIfInBounds_toArray, List.set_cons_zero, List.set_cons_succ])
                          refine wpAnyZ_take (i := 4) (oi := { dst := some 111, op := Op.unOp UnOp.not 4 (Operand.tmp 110), type := 4, pos := "law.go:145", after := #[{ on := 3, ground := Ground.data }, { on := 5, ground := Ground.gcOnly Departure.lateStores }], guard := none }) (v := ?_) rfl (by kernel_rfl) (fun _ _ _ h => h) (Or.inl ⟨by rfl, ?_⟩) (by assumption) ?_
                          rotate_left
                          · (intro wz hSw; (try dsimp only at hSw); go_simp; (try with_reducible rfl))
                          (try simp only [Act.put, List.setIfInBounds_toArray, List.set_cons_zero, List.set_cons_succ])
                          refine wpAnyZ_take (i := 5) (oi := { dst := some 20, op := Op.assign (Operand.tmp 108), type := 9, pos := "law.go:145", after := #[{ on := 1, ground := Ground.data }, { on := 0, ground := Ground.phase }, { on := 1, ground := Ground.phase }, { on := 2, ground := Ground.textOnly Departure.lateStores }, { on := 3, ground := Ground.textOnly Departure.lateStores }, { on := 4, ground := Ground.textOnly Departure.lateStores }], guard := none }) (v := ?_) rfl (by kernel_rfl) (fun _ _ _ h => h) (Or.inl ⟨by rfl, ?_⟩) (by assumption) ?_
                          rotate_left
                          · (intro wz hSw; (try dsimp only at hSw); go_simp; (try with_reducible rfl))
                          (try simp only [Act.put, List.setIfInBounds_toArray, List.set_cons_zero, List.set_cons_succ])
                          refine wpAnyZ_take (i := 6) (oi := { dst := some 21, op := Op.assign (Operand.tmp 111), type := 4, pos := "law.go:145", after := #[{ on := 4, ground := Ground.data }, { on := 5, ground := Ground.chain }, { on := 0, ground := Ground.phase }, { on := 1, ground := Ground.phase }, { on := 2, ground := Ground.phase }, { on := 3, ground := Ground.phase }, { on := 4, ground := Ground.phase }, { on := 5, ground := Ground.phase }], guard := none }) (v := ?_) rfl (by kernel_rfl) (fun _ _ _ h => h) (Or.inl ⟨by rfl, ?_⟩) (by assumption) ?_
                          rotate_left
                          · (intro wz hSw; (try dsimp only at hSw); go_simp; (try with_reducible rfl))
                          (try simp only [Act.put, List.setIfInBounds_toArray, List.set_cons_zero, List.set_cons_succ])
                          refine wpAnyZ_done (by kernel_rfl) ?_ _
                          clear CC0 CC1 CC2 ODr OYr OCr HDr HDXr K9r zr hHeld kr
                          obtain ⟨cC0, cC1, cC2, fC0, fC1, fC2⟩ := OC.out.three
                          go_wp2
                          go_roundw
                          case rel => exact ⟨k + 1, by omega, by go_num, K9⟩
                          case measure => simp [intOf]; omega
                    · obtain rfl : k = NZ.length := by omega
                      replace K := K.trans K9
                      obtain ⟨cD0, cD1, fD0, fD1⟩ := OD.out.two
                      obtain ⟨cY0, cY1, fY0, fY1⟩ := OY.out.two
                      go_wp2_with fail
                      refine (awake12 _ (HT.out.kept K)).mono ?_
                      rintro e w13 ⟨rfl, hk⟩
                      clear cD0 cD1 fD0 fD1 cY0 cY1 fY0 fY1
                      replace OD := Lib.hid (OD.out.kept hk)
                      replace OY := Lib.hid (OY.out.kept hk)
                      replace HD := Lib.hid (HD.out.go hk (Ext.refl _ _))
                      replace HDX := Lib.hid (HDX.out.go hk (Ext.refl _ _))
                      replace K := K.trans hk
                      clear hk
                      go_wp2
                      go_ret
                      exact ⟨rfl, K⟩
                refine AllReadyZ.cons (o := { dst := some 81, op := Op.buildSlice 22 1 #[(0, Operand.tmp 80)], type := 22, pos := "law.go:140", after := #[{ on := 5, ground := Ground.data }], guard := none }) rfl (fun KK hKK => ?_) AllReadyZ.nil
                go_simp
                have hnx : ∀ k, rA.ownBlock = some k → k ≠ w9.heap.size := fun k e => by have := (HA.out.lt k e).2; omega
                have OX := Lib.hid (Own.new w9 9 [.string nx0])
                replace HA := Lib.hid (ownsRow_kept HA.out ((Kept.refl _).alloc (.cells #[.string nx0] 9)))
                replace HB := Lib.hid (HB.out.go ((Kept.refl _).alloc (.cells #[.string nx0] 9)) (Ext.refl _ _))
                replace kr := kr.alloc (.cells #[.string nx0] 9)
                clear hHeld
                replace OD := Lib.hid (ODr.out.kept kr)
                replace OY := Lib.hid (OYr.out.kept kr)
                replace HD := Lib.hid (HDr.out.go kr (Ext.refl _ _))
                replace HDX := Lib.hid (HDXr.out.go kr (Ext.refl _ _))
                replace K := Kr.trans kr
                generalize (w9.alloc (.cells #[.string nx0] 9)) = w10 at *
                generalize w9.heap.size = bX at *
                refine hKK.out _ _ ?_ (fun hHeld => ?_)
                · exact kr
                clear hKK KK
                (try simp only [Act.put, List.setIfInBounds_toArray, List.set_cons_zero, List.set_cons_succ])
                refine wpAnyZ_ready (rs := [4]) (by kernel_rfl) (by simp) ?_
                refine AllReadyZ.cons (o := { dst := some 79, op := Op.call { callee := Callee.builtin Builtin.append, args := #[Operand.tmp 76, Operand.tmp 78], argTypes := #[22, 22] }, type := 22, pos := "law.go:140", after := #[{ on := 1, ground := Ground.data }, { on := 3, ground := Ground.data }, { on := 3, ground := Ground.chain }], guard := none }) rfl (fun KK hKK => ?_) AllReadyZ.nil
                refine Tryd.elS.step_app rfl _ _ rfl w6.heap.size rA N1 rfl HA.out [] QB qb N2 rfl (by obtain ⟨_, _, e9, _, _, h9⟩ := HB.out; cases e9; rw [← strs_sC]; exact h9) (sC_one _) (by unfold maxLen; omega) (by omega) kr.size ?_
                intro vA w11 hap hgr hat
                replace kr := kr.grown hgr (fun k e => (HA.out.lt k e).1)
                clear hHeld
                have hnx2 := own_ne hat hnx OX.out.lt
                replace OX := Lib.hid (own_grown OX.out hgr hnx)
                clear hnx
                have hnx := hnx2
                clear hnx2
                replace OD := Lib.hid (ODr.out.kept kr)
                replace OY := Lib.hid (OYr.out.kept kr)
                replace HD := Lib.hid (HDr.out.go kr (Ext.refl _ _))
                replace HDX := Lib.hid (HDXr.out.go kr (Ext.refl _ _))
                replace K := Kr.trans kr
                clear HA HB
                have HA := Lib.hid hap
                obtain ⟨AA, cA, rfl, _, _, _⟩ := own_form (V := []) hap (by simp)
                clear hap hgr hat
                have hnA : (N1 ++ N2).length ≤ 64 := by rw [List.length_append]; omega
                generalize N1 ++ N2 = NN at *
                generalize hnA2 : NN.length = nA at *
                have HNA := Lib.hid hnA2
                clear hnA2
                refine hKK.out _ _ ?_ (fun hHeld => ?_)
                · exact kr
                clear hKK KK
                (try simp only [Act.put, List.setIfInBounds_toArray, List.set_cons_zero, List.set_cons_succ])
                refine wpAnyZ_ready (rs := [7]) (by kernel_rfl) (by simp) ?_
                refine AllReadyZ.cons (o := { dst := some 82, op := Op.call { callee := Callee.builtin Builtin.append, args := #[Operand.tmp 79, Operand.tmp 81], argTypes := #[22, 22] }, type := 22, pos := "law.go:140", after := #[{ on := 4, ground := Ground.data }, { on := 6, ground := Ground.data }, { on := 4, ground := Ground.chain }], guard := none }) rfl (fun KK hKK => ?_) AllReadyZ.nil
                refine Tryd.elS.step_app rfl _ _ rfl w6.heap.size (.slice AA nA cA) NN rfl (by rw [HNA.out]; exact HA.out) [] (some ⟨bX, 0, none⟩) 1 [nx0] rfl (OX.out.row (by simp)) (sC_one _) (by rw [HNA.out]; unfold maxLen; simp only [List.length_cons, List.length_nil]; omega) (by rw [HNA.out]; simp only [List.length_cons, List.length_nil]; omega) kr.size ?_
                intro vZ w12 hap hgr hat
                replace kr := kr.grown hgr (fun k e => (HA.out.lt k e).1)
                clear hHeld
                replace OD := Lib.hid (ODr.out.kept kr)
                replace OY := Lib.hid (OYr.out.kept kr)
                replace HD := Lib.hid (HDr.out.go kr (Ext.refl _ _))
                replace HDX := Lib.hid (HDXr.out.go kr (Ext.refl _ _))
                replace K := Kr.trans kr
                clear HA OX hnx
                have HA := Lib.hid hap
                obtain ⟨AZ, cZ, rfl, _, _, _⟩ := own_form (V := []) hap (by simp)
                clear hap hgr hat
                have hnZ : (NN ++ [nx0]).length ≤ 65 := by rw [List.length_append, HNA.out]; simp only [List.length_cons, List.length_nil]; omega
                clear hnA
                generalize NN ++ [nx0] = NZ at *
                generalize hnZ2 : NZ.length = nZ at *
                have HNZ := Lib.hid hnZ2
                clear hnZ2 HNA
                refine hKK.out _ _ ?_ (fun hHeld => ?_)
                · exact kr
                clear hKK KK
                (try simp only [Act.put, List.setIfInBounds_toArray, List.set_cons_zero, List.set_cons_succ])
                refine wpAnyZ_take (i := 8) (oi := { dst := some 83, op := Op.call { callee := Callee.builtin Builtin.len, args := #[Operand.tmp 82], argTypes := #[22] }, type := 3, pos := "law.go:140", after := #[{ on := 7, ground := Ground.data }], guard := none }) (v := ?_) rfl (by kernel_rfl) (fun _ _ _ h => h) (Or.inl ⟨by rfl, ?_⟩) (by assumption) ?_
                rotate_left
                · (intro wz hSw; (try dsimp only at hSw); go_simp; (try with_reducible rfl))
                (try simp only [Act.put, List.setIfInBounds_toArray, List.set_cons_zero, List.set_cons_succ])
                refine wpAnyZ_done (by kernel_rfl) ?_ _
                clear CD0 CD1 CY0 CY1 ODr OYr HDr HDXr Kr zr hHeld kr
                have HS9 := strsAt_row (V := []) (l := NZ) (by rw [strs_sC, HNZ.out]; exact HA.out) (fun _ h => by cases h)
                obtain ⟨_, _, e9, h91, h92, h93⟩ := HS9
                cases e9
                unfold maxLen at h92
                have HNR := Lib.hid h93
                clear h93 HA
                go_wp2_with fail
                go_loopw [84] (fun iv wq => ∃ (k : Nat), k ≤ NZ.length ∧ iv = .int .i64 k ∧ Kept w12 wq) (fun iv _ => NZ.length - (intOf iv).toNat)
                case atStart => exact ⟨0, Nat.zero_le _, rfl, Kept.refl _⟩
                case round =>
                  obtain ⟨k, hk, rfl, K9⟩ := hrel
                  replace OD := Lib.hid (OD.out.kept K9)
                  replace OY := Lib.hid (OY.out.kept K9)
                  replace HD := Lib.hid (HD.out.go K9 (Ext.refl _ _))
                  replace HDX := Lib.hid (HDX.out.go K9 (Ext.refl _ _))
                  by_cases hlt : k < NZ.length
                  · have hlt2 : k < NZ.length := hlt
                    obtain ⟨b, o, rfl, hb, _, hcs⟩ := (HNR.out.kept K9) (by rw [strs_length]; omega)
                    have g1 : wr.cell? ⟨b, o + k, none⟩ = some (.string NZ[k]) := hcs _ _ (strs_at hlt2)
                    clear hcs
                    generalize NZ[k] = n at *
                    clear hlt2
                    have HL1 := Lib.hid (HLW.out n)
                    have hs1 : Hid (getR dd n = ((getR dd n).1, (getR dd n).2)) := rfl
                    generalize hr1 : getR dd n = r1 at *
                    generalize hr2 : getR xn n = r2 at *
                    generalize hr3 : lastL n l = r3 at *
                    have HR1 := Lib.hid hr1
                    have HR2 := Lib.hid hr2
                    have HR3 := Lib.hid hr3
                    clear hr1 hr2 hr3 hs1
                    obtain ⟨⟨cn, cx, cg⟩, cb⟩ := r3
                    obtain ⟨s1, c1⟩ := r1
                    obtain ⟨s2, c2⟩ := r2
                    obtain ⟨cD0, cD1, fD0, fD1⟩ := OD.out.two
                    obtain ⟨cY0, cY1, fY0, fY1⟩ := OY.out.two
                    go_wp2_with fail
                    refine (says_any dd n _ _ (HD.out.weak (fun _ hk => by cases hk))).mono ?_
                    rintro e w13 ⟨rfl, hk⟩
                    clear cD0 cD1 fD0 fD1 cY0 cY1 fY0 fY1
                    replace OD := Lib.hid (OD.out.kept hk)
                    replace OY := Lib.hid (OY.out.kept hk)
                    replace HD := Lib.hid (HD.out.go hk (Ext.refl _ _))
                    replace HDX := Lib.hid (HDX.out.go hk (Ext.refl _ _))
                    replace K9 := K9.trans hk
                    rw [HR1.out]
                    clear hk
                    obtain ⟨cD0, cD1, fD0, fD1⟩ := OD.out.two
                    obtain ⟨cY0, cY1, fY0, fY1⟩ := OY.out.two
                    go_wp2_with fail
                    refine (says_any xn n _ _ HDX.out).mono ?_
                    rintro e w14 ⟨rfl, hk⟩
                    clear cD0 cD1 fD0 fD1 cY0 cY1 fY0 fY1
                    replace OD := Lib.hid (OD.out.kept hk)
                    replace OY := Lib.hid (OY.out.kept hk)
                    replace HD := Lib.hid (HD.out.go hk (Ext.refl _ _))
                    replace HDX := Lib.hid (HDX.out.go hk (Ext.refl _ _))
                    replace K9 := K9.trans hk
                    rw [HR2.out]
                    clear hk
                    obtain ⟨cD0, cD1, fD0, fD1⟩ := OD.out.two
                    obtain ⟨cY0, cY1, fY0, fY1⟩ := OY.out.two
                    go_wp2_with fail
                    refine (last_any l n _ _ (HLS.out.go (K.trans K9) (Ext.refl _ _))).mono ?_
                    rintro e w15 ⟨rfl, hk⟩
                    clear cD0 cD1 fD0 fD1 cY0 cY1 fY0 fY1
                    replace OD := Lib.hid (OD.out.kept hk)
                    replace OY := Lib.hid (OY.out.kept hk)
                    replace HD := Lib.hid (HD.out.go hk (Ext.refl _ _))
                    replace HDX := Lib.hid (HDX.out.go hk (Ext.refl _ _))
                    replace K9 := K9.trans hk
                    rw [HR3.out]
                    dsimp only [chgC] at HL1 ⊢
                    clear hk
                    cases cb with
                    | false =>
                      have he := HL1.out.1 rfl
                      injection he with he1 he2
                      subst he1 he2
                      clear HL1
                      generalize (c2 == 0) = hb at *
                      cases hb with
                      | true =>
                        go_wp2
                        go_roundw
                        case rel => exact ⟨k + 1, by omega, by go_num, K9.alloc _⟩
                        case measure => simp [intOf]; omega
                      | false =>
                        go_wp2
                        go_roundw
                        case rel => exact ⟨k + 1, by omega, by go_num, K9.alloc _⟩
                        case measure => simp [intOf]; omega
                    | true =>
                      cases cg with
                      | true =>
                        have he := HL1.out.2.1 rfl rfl
                        injection he with he1 he2
                        subst he1 he2
                        clear HL1
                        go_upto_region 25 with fail
                        replace OD := Lib.hid (OD.out.alloc (.cells #[.string cn, .string cx, .bool true] 69))
                        replace OY := Lib.hid (OY.out.alloc (.cells #[.string cn, .string cx, .bool true] 69))
                        have OC := Lib.hid (Own.new w15 69 [.string cn, .string cx, .bool true])
                        replace HD := Lib.hid (HD.out.go ((Kept.refl w15).alloc (.cells #[.string cn, .string cx, .bool true] 69)) (Ext.refl _ _))
                        replace HDX := Lib.hid (HDX.out.go ((Kept.refl w15).alloc (.cells #[.string cn, .string cx, .bool true] 69)) (Ext.refl _ _))
                        replace K9 := K9.alloc (.cells #[.string cn, .string cx, .bool true] 69)
                        generalize (w15.alloc (.cells #[.string cn, .string cx, .bool true] 69)) = w16 at *
                        have CC0 : ∀ W', Kept w16 W' → W'.cell? ⟨w15.heap.size, 0, none⟩ = some (.string cn) := fun W' hk => (OC.out.kept hk).cell? 0
                        have CC1 : ∀ W', Kept w16 W' → W'.cell? ⟨w15.heap.size, 1, none⟩ = some (.string cx) := fun W' hk => (OC.out.kept hk).cell? 1
                        have CC2 : ∀ W', Kept w16 W' → W'.cell? ⟨w15.heap.size, 2, none⟩ = some (.bool true) := fun W' hk => (OC.out.kept hk).cell? 2
                        refine wp_region_Z (S := fun W' => Kept w16 W') (Z := []) (by kernel_rfl) ((Kept.refl w16).drew) (fun hHeld => ?_)
                        have kr := (Kept.refl w16).drew
                        have K9r := K9
                        have zr := K9.size
                        have ODr := OD
                        have OYr := OY
                        have OCr := OC
                        have HDr := HD
                        have HDXr := HDX
                        replace OD := Lib.hid (ODr.out.kept kr)
                        replace OY := Lib.hid (OYr.out.kept kr)
                        replace OC := Lib.hid (OCr.out.kept kr)
                        replace HD := Lib.hid (HDr.out.go kr (Ext.refl _ _))
                        replace HDX := Lib.hid (HDXr.out.go kr (Ext.refl _ _))
                        replace K9 := K9r.trans kr
                        generalize w16.drew = w17 at *
                        refine wpAnyZ_take (i := 0) (oi := { dst := some 107, op := Op.fieldAddr 69 (Operand.tmp 24) 1, type := 0, pos := "law.go:145", after := #[], guard := none }) (v := ?_) rfl (by kernel_rfl) (fun _ _ _ h => h) (Or.inl ⟨by rfl, ?_⟩) (by assumption) ?_
                        rotate_left
                        · (intro wz hSw; (try dsimp only at hSw); go_simp; (try with_reducible rfl))
                        (try simp only [Act.put, List.setIfInBounds_toArray, List.set_cons_zero, List.set_cons_succ])
                        refine wpAnyZ_take (i := 1) (oi := { dst := some 108, op := Op.load 9 (Operand.tmp 107), type := 9, pos := "law.go:145", after := #[{ on := 0, ground := Ground.data }], guard := none }) (v := ?_) rfl (by kernel_rfl) (fun _ _ _ h => h) (Or.inl ⟨by rfl, ?_⟩) (by assumption) ?_
                        rotate_left
                        · (intro wz hSw; (try dsimp only at hSw); go_simp; (try with_reducible rfl))
                        (try simp only [Act.put, List.setIfInBounds_toArray, List.set_cons_zero, List.set_cons_succ])
                        refine wpAnyZ_take (i := 2) (oi := { dst := some 109, op := Op.fieldAddr 69 (Operand.tmp 24) 2, type := 0, pos := "law.go:145", after := #[{ on := 5, ground := Ground.gcOnly Departure.lateStores }], guard := none }) (v := ?_) rfl (by kernel_rfl) (fun _ _ _ h => h) (Or.inl ⟨by rfl, ?_⟩) (by assumption) ?_
                        rotate_left
                        · (intro wz hSw; (try dsimp only at hSw); go_simp; (try with_reducible rfl))
                        (try simp only [Act.put, List.setIfInBounds_toArray, List.set_cons_zero, List.set_cons_succ])
                        refine wpAnyZ_take (i := 3) (oi := { dst := some 110, op := Op.load 4 (Operand.tmp 109), type := 4, pos := "law.go:145", after := #[{ on := 2, ground := Ground.data }, { on := 5, ground := Ground.gcOnly Departure.lateStores }], guard := none }) (v := ?_) rfl (by kernel_rfl) (fun _ _ _ h => h) (Or.inl ⟨by rfl, ?_⟩) (by assumption) ?_
                        rotate_left
                        · (intro wz hSw; (try dsimp only at hSw); go_simp; (try with_reducible rfl))
                        (try simp only [Act.put, List.setIfInBounds_toArray, List.set_cons_zero, List.set_cons_succ])
                        refine wpAnyZ_take (i := 4) (oi := { dst := some 111, op := Op.unOp UnOp.not 4 (Operand.tmp 110), type := 4, pos := "law.go:145", after := #[{ on := 3, ground := Ground.data }, { on := 5, ground := Ground.gcOnly Departure.lateStores }], guard := none }) (v := ?_) rfl (by kernel_rfl) (fun _ _ _ h => h) (Or.inl ⟨by rfl, ?_⟩) (by assumption) ?_
                        rotate_left
                        · (intro wz hSw; (try dsimp only at hSw); go_simp; (try with_reducible rfl))
                        (try simp only [Act.put, List.setIfInBounds_toArray, List.set_cons_zero, List.set_cons_succ])
                        refine wpAnyZ_take (i := 5) (oi := { dst := some 20, op := Op.assign (Operand.tmp 108), type := 9, pos := "law.go:145", after := #[{ on := 1, ground := Ground.data }, { on := 0, ground := Ground.phase }, { on := 1, ground := Ground.phase }, { on := 2, ground := Ground.textOnly Departure.lateStores }, { on := 3, ground := Ground.textOnly Departure.lateStores }, { on := 4, ground := Ground.textOnly Departure.lateStores }], guard := none }) (v := ?_) rfl (by kernel_rfl) (fun _ _ _ h => h) (Or.inl ⟨by rfl, ?_⟩) (by assumption) ?_
                        rotate_left
                        · (intro wz hSw; (try dsimp only at hSw); go_simp; (try with_reducible rfl))
                        (try simp only [Act.put, List.setIfInBounds_toArray, List.set_cons_zero, List.set_cons_succ])
                        refine wpAnyZ_take (i := 6) (oi := { dst := some 21, op := Op.assign (Operand.tmp 111), type := 4, pos := "law.go:145", after := #[{ on := 4, ground := Ground.data }, { on := 5, ground := Ground.chain }, { on := 0, ground := Ground.phase }, { on := 1, ground := Ground.phase }, { on := 2, ground := Ground.phase }, { on := 3, ground := Ground.phase }, { on := 4, ground := Ground.phase }, { on := 5, ground := Ground.phase }], guard := none }) (v := ?_) rfl (by kernel_rfl) (fun _ _ _ h => h) (Or.inl ⟨by rfl, ?_⟩) (by assumption) ?_
                        rotate_left
                        · (intro wz hSw; (try dsimp only at hSw); go_simp; (try with_reducible rfl))
                        (try simp only [Act.put, List.setIfInBounds_toArray, List.set_cons_zero, List.set_cons_succ])
                        refine wpAnyZ_done (by kernel_rfl) ?_ _
                        clear CC0 CC1 CC2 ODr OYr OCr HDr HDXr K9r zr hHeld kr
                        obtain ⟨cC0, cC1, cC2, fC0, fC1, fC2⟩ := OC.out.three
                        go_wp2
                        go_roundw
                        case rel => exact ⟨k + 1, by omega, by go_num, K9⟩
                        case measure => simp [intOf]; omega
                      | false =>
                        have he := HL1.out.2.2 rfl rfl
                        injection he with he1 he2
                        subst he1 he2
                        clear HL1
                        go_upto_region 25 with fail
                        replace OD := Lib.hid (OD.out.alloc (.cells #[.string cn, .string s2, .bool false] 69))
                        replace OY := Lib.hid (OY.out.alloc (.cells #[.string cn, .string s2, .bool false] 69))
                        have OC := Lib.hid (Own.new w15 69 [.string cn, .string s2, .bool false])
                        replace HD := Lib.hid (HD.out.go ((Kept.refl w15).alloc (.cells #[.string cn, .string s2, .bool false] 69)) (Ext.refl _ _))
                        replace HDX := Lib.hid (HDX.out.go ((Kept.refl w15).alloc (.cells #[.string cn, .string s2, .bool false] 69)) (Ext.refl _ _))
                        replace K9 := K9.alloc (.cells #[.string cn, .string s2, .bool false] 69)
                        generalize (w15.alloc (.cells #[.string cn, .string s2, .bool false] 69)) = w16 at *
                        have CC0 : ∀ W', Kept w16 W' → W'.cell? ⟨w15.heap.size, 0, none⟩ = some (.string cn) := fun W' hk => (OC.out.kept hk).cell? 0
                        have CC1 : ∀ W', Kept w16 W' → W'.cell? ⟨w15.heap.size, 1, none⟩ = some (.string s2) := fun W' hk => (OC.out.kept hk).cell? 1
                        have CC2 : ∀ W', Kept w16 W' → W'.cell? ⟨w15.heap.size, 2, none⟩ = some (.bool false) := fun W' hk => (OC.out.kept hk).cell? 2
                        refine wp_region_Z (S := fun W' => Kept w16 W') (Z := []) (by kernel_rfl) ((Kept.refl w16).drew) (fun hHeld => ?_)
                        have kr := (Kept.refl w16).drew
                        have K9r := K9
                        have zr := K9.size
                        have ODr := OD
                        have OYr := OY
                        have OCr := OC
                        have HDr := HD
                        have HDXr := HDX
                        replace OD := Lib.hid (ODr.out.kept kr)
                        replace OY := Lib.hid (OYr.out.kept kr)
                        replace OC := Lib.hid (OCr.out.kept kr)
                        replace HD := Lib.hid (HDr.out.go kr (Ext.refl _ _))
                        replace HDX := Lib.hid (HDXr.out.go kr (Ext.refl _ _))
                        replace K9 := K9r.trans kr
                        generalize w16.drew = w17 at *
                        refine wpAnyZ_take (i := 0) (oi := { dst := some 107, op := Op.fieldAddr 69 (Operand.tmp 24) 1, type := 0, pos := "law.go:145", after := #[], guard := none }) (v := ?_) rfl (by kernel_rfl) (fun _ _ _ h => h) (Or.inl ⟨by rfl, ?_⟩) (by assumption) ?_
                        rotate_left
                        · (intro wz hSw; (try dsimp only at hSw); go_simp; (try with_reducible rfl))
                        (try simp only [Act.put, List.setIfInBounds_toArray, List.set_cons_zero, List.set_cons_succ])
                        refine wpAnyZ_take (i := 1) (oi := { dst := some 108, op := Op.load 9 (Operand.tmp 107), type := 9, pos := "law.go:145", after := #[{ on := 0, ground := Ground.data }], guard := none }) (v := ?_) rfl (by kernel_rfl) (fun _ _ _ h => h) (Or.inl ⟨by rfl, ?_⟩) (by assumption) ?_
                        rotate_left
                        · (intro wz hSw; (try dsimp only at hSw); go_simp; (try with_reducible rfl))
                        (try simp only [Act.put, List.setIfInBounds_toArray, List.set_cons_zero, List.set_cons_succ])
                        refine wpAnyZ_take (i := 2) (oi := { dst := some 109, op := Op.fieldAddr 69 (Operand.tmp 24) 2, type := 0, pos := "law.go:145", after := #[{ on := 5, ground := Ground.gcOnly Departure.lateStores }], guard := none }) (v := ?_) rfl (by kernel_rfl) (fun _ _ _ h => h) (Or.inl ⟨by rfl, ?_⟩) (by assumption) ?_
                        rotate_left
                        · (intro wz hSw; (try dsimp only at hSw); go_simp; (try with_reducible rfl))
                        (try simp only [Act.put, List.setIfInBounds_toArray, List.set_cons_zero, List.set_cons_succ])
                        refine wpAnyZ_take (i := 3) (oi := { dst := some 110, op := Op.load 4 (Operand.tmp 109), type := 4, pos := "law.go:145", after := #[{ on := 2, ground := Ground.data }, { on := 5, ground := Ground.gcOnly Departure.lateStores }], guard := none }) (v := ?_) rfl (by kernel_rfl) (fun _ _ _ h => h) (Or.inl ⟨by rfl, ?_⟩) (by assumption) ?_
                        rotate_left
                        · (intro wz hSw; (try dsimp only at hSw); go_simp; (try with_reducible rfl))
                        (try simp only [Act.put, List.setIfInBounds_toArray, List.set_cons_zero, List.set_cons_succ])
                        refine wpAnyZ_take (i := 4) (oi := { dst := some 111, op := Op.unOp UnOp.not 4 (Operand.tmp 110), type := 4, pos := "law.go:145", after := #[{ on := 3, ground := Ground.data }, { on := 5, ground := Ground.gcOnly Departure.lateStores }], guard := none }) (v := ?_) rfl (by kernel_rfl) (fun _ _ _ h => h) (Or.inl ⟨by rfl, ?_⟩) (by assumption) ?_
                        rotate_left
                        · (intro wz hSw; (try dsimp only at hSw); go_simp; (try with_reducible rfl))
                        (try simp only [Act.put, List.setIfInBounds_toArray, List.set_cons_zero, List.set_cons_succ])
                        refine wpAnyZ_take (i := 5) (oi := { dst := some 20, op := Op.assign (Operand.tmp 108), type := 9, pos := "law.go:145", after := #[{ on := 1, ground := Ground.data }, { on := 0, ground := Ground.phase }, { on := 1, ground := Ground.phase }, { on := 2, ground := Ground.textOnly Departure.lateStores }, { on := 3, ground := Ground.textOnly Departure.lateStores }, { on := 4, ground := Ground.textOnly Departure.lateStores }], guard := none }) (v := ?_) rfl (by kernel_rfl) (fun _ _ _ h => h) (Or.inl ⟨by rfl, ?_⟩) (by assumption) ?_
                        rotate_left
                        · (intro wz hSw; (try dsimp only at hSw); go_simp; (try with_reducible rfl))
                        (try simp only [Act.put, List.setIfInBounds_toArray, List.set_cons_zero, List.set_cons_succ])
                        refine wpAnyZ_take (i := 6) (oi := { dst := some 21, op := Op.assign (Operand.tmp 111), type := 4, pos := "law.go:145", after := #[{ on := 4, ground := Ground.data }, { on := 5, ground := Ground.chain }, { on := 0, ground := Ground.phase }, { on := 1, ground := Ground.phase }, { on := 2, ground := Ground.phase }, { on := 3, ground := Ground.phase }, { on := 4, ground := Ground.phase }, { on := 5, ground := Ground.phase }], guard := none }) (v := ?_) rfl (by kernel_rfl) (fun _ _ _ h => h) (Or.inl ⟨by rfl, ?_⟩) (by assumption) ?_
                        rotate_left
                        · (intro wz hSw; (try dsimp only at hSw); go_simp; (try with_reducible rfl))
                        (try simp only [Act.put, List.setIfInBounds_toArray, List.set_cons_zero, List.set_cons_succ])
                        refine wpAnyZ_done (by kernel_rfl) ?_ _
                        clear CC0 CC1 CC2 ODr OYr OCr HDr HDXr K9r zr hHeld kr
                        obtain ⟨cC0, cC1, cC2, fC0, fC1, fC2⟩ := OC.out.three
                        go_wp2
                        go_roundw
                        case rel => exact ⟨k + 1, by omega, by go_num, K9⟩
                        case measure => simp [intOf]; omega
                  · obtain rfl : k = NZ.length := by omega
                    replace K := K.trans K9
                    obtain ⟨cD0, cD1, fD0, fD1⟩ := OD.out.two
                    obtain ⟨cY0, cY1, fY0, fY1⟩ := OY.out.two
                    go_wp2_with fail
                    refine (awake12 _ (HT.out.kept K)).mono ?_
                    rintro e w13 ⟨rfl, hk⟩
                    clear cD0 cD1 fD0 fD1 cY0 cY1 fY0 fY1
                    replace OD := Lib.hid (OD.out.kept hk)
                    replace OY := Lib.hid (OY.out.kept hk)
                    replace HD := Lib.hid (HD.out.go hk (Ext.refl _ _))
                    replace HDX := Lib.hid (HDX.out.go hk (Ext.refl _ _))
                    replace K := K.trans hk
                    clear hk
                    go_wp2
                    go_ret
                    exact ⟨rfl, K⟩
              refine AllReadyZ.cons (o := { dst := some 81, op := Op.buildSlice 22 1 #[(0, Operand.tmp 80)], type := 22, pos := "law.go:140", after := #[{ on := 5, ground := Ground.data }], guard := none }) rfl (fun KK hKK => ?_) AllReadyZ.nil
              go_simp
              have hnx : ∀ k, rA.ownBlock = some k → k ≠ w8.heap.size := fun k e => by have := (HA.out.lt k e).2; omega
              have OX := Lib.hid (Own.new w8 9 [.string nx0])
              replace HA := Lib.hid (ownsRow_kept HA.out ((Kept.refl _).alloc (.cells #[.string nx0] 9)))
              replace kr := kr.alloc (.cells #[.string nx0] 9)
              clear hHeld
              replace OD := Lib.hid (ODr.out.kept kr)
              replace OY := Lib.hid (OYr.out.kept kr)
              replace HD := Lib.hid (HDr.out.go kr (Ext.refl _ _))
              replace HDX := Lib.hid (HDXr.out.go kr (Ext.refl _ _))
              replace K := Kr.trans kr
              generalize (w8.alloc (.cells #[.string nx0] 9)) = w9 at *
              generalize w8.heap.size = bX at *
              refine hKK.out _ _ ?_ (fun hHeld => ?_)
              · exact kr
              clear hKK KK
              (try simp only [Act.put, List.setIfInBounds_toArray, List.set_cons_zero, List.set_cons_succ])
              refine wpAnyZ_ready (rs := [3]) (by kernel_rfl) (by simp) ?_
              refine AllReadyZ.cons (o := { dst := some 78, op := Op.call { callee := Callee.value (Operand.func 35), args := #[Operand.tmp 77], argTypes := #[25] }, type := 22, pos := "law.go:140", after := #[{ on := 2, ground := Ground.data }, { on := 1, ground := Ground.chain }], guard := none }) rfl (fun KK hKK => ?_) AllReadyZ.nil
              go_simp
              refine (names_own xn _ _ (HDX.out.weak (fun _ hk => by cases hk))).mono ?_
              rintro e w10 ⟨rB, rfl, hr2, hk⟩
              clear hHeld
              rw [HN2.out] at hr2
              have HB := Lib.hid (strsAt_row (V := []) hr2 (fun _ h => by cases h))
              clear hr2
              obtain ⟨QB, qb, rfl, _, _, _⟩ := HB.out
              replace HA := Lib.hid (ownsRow_kept HA.out hk)
              replace OX := Lib.hid (OX.out.kept hk)
              replace kr := kr.trans hk
              replace OD := Lib.hid (ODr.out.kept kr)
              replace OY := Lib.hid (OYr.out.kept kr)
              replace HD := Lib.hid (HDr.out.go kr (Ext.refl _ _))
              replace HDX := Lib.hid (HDXr.out.go kr (Ext.refl _ _))
              replace K := Kr.trans kr
              clear hk
              go_wp2_with fail
              refine hKK.out _ _ ?_ (fun hHeld => ?_)
              · exact kr
              clear hKK KK
              (try simp only [Act.put, List.setIfInBounds_toArray, List.set_cons_zero, List.set_cons_succ])
              refine wpAnyZ_ready (rs := [4]) (by kernel_rfl) (by simp) ?_
              refine AllReadyZ.cons (o := { dst := some 79, op := Op.call { callee := Callee.builtin Builtin.append, args := #[Operand.tmp 76, Operand.tmp 78], argTypes := #[22, 22] }, type := 22, pos := "law.go:140", after := #[{ on := 1, ground := Ground.data }, { on := 3, ground := Ground.data }, { on := 3, ground := Ground.chain }], guard := none }) rfl (fun KK hKK => ?_) AllReadyZ.nil
              refine Tryd.elS.step_app rfl _ _ rfl w6.heap.size rA N1 rfl HA.out [] QB qb N2 rfl (by obtain ⟨_, _, e9, _, _, h9⟩ := HB.out; cases e9; rw [← strs_sC]; exact h9) (sC_one _) (by unfold maxLen; omega) (by omega) kr.size ?_
              intro vA w11 hap hgr hat
              replace kr := kr.grown hgr (fun k e => (HA.out.lt k e).1)
              clear hHeld
              have hnx2 := own_ne hat hnx OX.out.lt
              replace OX := Lib.hid (own_grown OX.out hgr hnx)
              clear hnx
              have hnx := hnx2
              clear hnx2
              replace OD := Lib.hid (ODr.out.kept kr)
              replace OY := Lib.hid (OYr.out.kept kr)
              replace HD := Lib.hid (HDr.out.go kr (Ext.refl _ _))
              replace HDX := Lib.hid (HDXr.out.go kr (Ext.refl _ _))
              replace K := Kr.trans kr
              clear HA HB
              have HA := Lib.hid hap
              obtain ⟨AA, cA, rfl, _, _, _⟩ := own_form (V := []) hap (by simp)
              clear hap hgr hat
              have hnA : (N1 ++ N2).length ≤ 64 := by rw [List.length_append]; omega
              generalize N1 ++ N2 = NN at *
              generalize hnA2 : NN.length = nA at *
              have HNA := Lib.hid hnA2
              clear hnA2
              refine hKK.out _ _ ?_ (fun hHeld => ?_)
              · exact kr
              clear hKK KK
              (try simp only [Act.put, List.setIfInBounds_toArray, List.set_cons_zero, List.set_cons_succ])
              refine wpAnyZ_ready (rs := [7]) (by kernel_rfl) (by simp) ?_
              refine AllReadyZ.cons (o := { dst := some 82, op := Op.call { callee := Callee.builtin Builtin.append, args := #[Operand.tmp 79, Operand.tmp 81], argTypes := #[22, 22] }, type := 22, pos := "law.go:140", after := #[{ on := 4, ground := Ground.data }, { on := 6, ground := Ground.data }, { on := 4, ground := Ground.chain }], guard := none }) rfl (fun KK hKK => ?_) AllReadyZ.nil
              refine Tryd.elS.step_app rfl _ _ rfl w6.heap.size (.slice AA nA cA) NN rfl (by rw [HNA.out]; exact HA.out) [] (some ⟨bX, 0, none⟩) 1 [nx0] rfl (OX.out.row (by simp)) (sC_one _) (by rw [HNA.out]; unfold maxLen; simp only [List.length_cons, List.length_nil]; omega) (by rw [HNA.out]; simp only [List.length_cons, List.length_nil]; omega) kr.size ?_
              intro vZ w12 hap hgr hat
              replace kr := kr.grown hgr (fun k e => (HA.out.lt k e).1)
              clear hHeld
              replace OD := Lib.hid (ODr.out.kept kr)
              replace OY := Lib.hid (OYr.out.kept kr)
              replace HD := Lib.hid (HDr.out.go kr (Ext.refl _ _))
              replace HDX := Lib.hid (HDXr.out.go kr (Ext.refl _ _))
              replace K := Kr.trans kr
              clear HA OX hnx
              have HA := Lib.hid hap
              obtain ⟨AZ, cZ, rfl, _, _, _⟩ := own_form (V := []) hap (by simp)
              clear hap hgr hat
              have hnZ : (NN ++ [nx0]).length ≤ 65 := by rw [List.length_append, HNA.out]; simp only [List.length_cons, List.length_nil]; omega
              clear hnA
              generalize NN ++ [nx0] = NZ at *
              generalize hnZ2 : NZ.length = nZ at *
              have HNZ := Lib.hid hnZ2
              clear hnZ2 HNA
              refine hKK.out _ _ ?_ (fun hHeld => ?_)
              · exact kr
              clear hKK KK
              (try simp only [Act.put, List.setIfInBounds_toArray, List.set_cons_zero, List.set_cons_succ])
              refine wpAnyZ_take (i := 8) (oi := { dst := some 83, op := Op.call { callee := Callee.builtin Builtin.len, args := #[Operand.tmp 82], argTypes := #[22] }, type := 3, pos := "law.go:140", after := #[{ on := 7, ground := Ground.data }], guard := none }) (v := ?_) rfl (by kernel_rfl) (fun _ _ _ h => h) (Or.inl ⟨by rfl, ?_⟩) (by assumption) ?_
              rotate_left
              · (intro wz hSw; (try dsimp only at hSw); go_simp; (try with_reducible rfl))
              (try simp only [Act.put, List.setIfInBounds_toArray, List.set_cons_zero, List.set_cons_succ])
              refine wpAnyZ_done (by kernel_rfl) ?_ _
              clear CD0 CD1 CY0 CY1 ODr OYr HDr HDXr Kr zr hHeld kr
              have HS9 := strsAt_row (V := []) (l := NZ) (by rw [strs_sC, HNZ.out]; exact HA.out) (fun _ h => by cases h)
              obtain ⟨_, _, e9, h91, h92, h93⟩ := HS9
              cases e9
              unfold maxLen at h92
              have HNR := Lib.hid h93
              clear h93 HA
              go_wp2_with fail
              go_loopw [84] (fun iv wq => ∃ (k : Nat), k ≤ NZ.length ∧ iv = .int .i64 k ∧ Kept w12 wq) (fun iv _ => NZ.length - (intOf iv).toNat)
              case atStart => exact ⟨0, Nat.zero_le _, rfl, Kept.refl _⟩
              case round =>
                obtain ⟨k, hk, rfl, K9⟩ := hrel
                replace OD := Lib.hid (OD.out.kept K9)
                replace OY := Lib.hid (OY.out.kept K9)
                replace HD := Lib.hid (HD.out.go K9 (Ext.refl _ _))
                replace HDX := Lib.hid (HDX.out.go K9 (Ext.refl _ _))
                by_cases hlt : k < NZ.length
                · have hlt2 : k < NZ.length := hlt
                  obtain ⟨b, o, rfl, hb, _, hcs⟩ := (HNR.out.kept K9) (by rw [strs_length]; omega)
                  have g1 : wr.cell? ⟨b, o + k, none⟩ = some (.string NZ[k]) := hcs _ _ (strs_at hlt2)
                  clear hcs
                  generalize NZ[k] = n at *
                  clear hlt2
                  have HL1 := Lib.hid (HLW.out n)
                  have hs1 : Hid (getR dd n = ((getR dd n).1, (getR dd n).2)) := rfl
                  generalize hr1 : getR dd n = r1 at *
                  generalize hr2 : getR xn n = r2 at *
                  generalize hr3 : lastL n l = r3 at *
                  have HR1 := Lib.hid hr1
                  have HR2 := Lib.hid hr2
                  have HR3 := Lib.hid hr3
                  clear hr1 hr2 hr3 hs1
                  obtain ⟨⟨cn, cx, cg⟩, cb⟩ := r3
                  obtain ⟨s1, c1⟩ := r1
                  obtain ⟨s2, c2⟩ := r2
                  obtain ⟨cD0, cD1, fD0, fD1⟩ := OD.out.two
                  obtain ⟨cY0, cY1, fY0, fY1⟩ := OY.out.two
                  go_wp2_with fail
                  refine (says_any dd n _ _ (HD.out.weak (fun _ hk => by cases hk))).mono ?_
                  rintro e w13 ⟨rfl, hk⟩
                  clear cD0 cD1 fD0 fD1 cY0 cY1 fY0 fY1
                  replace OD := Lib.hid (OD.out.kept hk)
                  replace OY := Lib.hid (OY.out.kept hk)
                  replace HD := Lib.hid (HD.out.go hk (Ext.refl _ _))
                  replace HDX := Lib.hid (HDX.out.go hk (Ext.refl _ _))
                  replace K9 := K9.trans hk
                  rw [HR1.out]
                  clear hk
                  obtain ⟨cD0, cD1, fD0, fD1⟩ := OD.out.two
                  obtain ⟨cY0, cY1, fY0, fY1⟩ := OY.out.two
                  go_wp2_with fail
                  refine (says_any xn n _ _ HDX.out).mono ?_
                  rintro e w14 ⟨rfl, hk⟩
                  clear cD0 cD1 fD0 fD1 cY0 cY1 fY0 fY1
                  replace OD := Lib.hid (OD.out.kept hk)
                  replace OY := Lib.hid (OY.out.kept hk)
                  replace HD := Lib.hid (HD.out.go hk (Ext.refl _ _))
                  replace HDX := Lib.hid (HDX.out.go hk (Ext.refl _ _))
                  replace K9 := K9.trans hk
                  rw [HR2.out]
                  clear hk
                  obtain ⟨cD0, cD1, fD0, fD1⟩ := OD.out.two
                  obtain ⟨cY0, cY1, fY0, fY1⟩ := OY.out.two
                  go_wp2_with fail
                  refine (last_any l n _ _ (HLS.out.go (K.trans K9) (Ext.refl _ _))).mono ?_
                  rintro e w15 ⟨rfl, hk⟩
                  clear cD0 cD1 fD0 fD1 cY0 cY1 fY0 fY1
                  replace OD := Lib.hid (OD.out.kept hk)
                  replace OY := Lib.hid (OY.out.kept hk)
                  replace HD := Lib.hid (HD.out.go hk (Ext.refl _ _))
                  replace HDX := Lib.hid (HDX.out.go hk (Ext.refl _ _))
                  replace K9 := K9.trans hk
                  rw [HR3.out]
                  dsimp only [chgC] at HL1 ⊢
                  clear hk
                  cases cb with
                  | false =>
                    have he := HL1.out.1 rfl
                    injection he with he1 he2
                    subst he1 he2
                    clear HL1
                    generalize (c2 == 0) = hb at *
                    cases hb with
                    | true =>
                      go_wp2
                      go_roundw
                      case rel => exact ⟨k + 1, by omega, by go_num, K9.alloc _⟩
                      case measure => simp [intOf]; omega
                    | false =>
                      go_wp2
                      go_roundw
                      case rel => exact ⟨k + 1, by omega, by go_num, K9.alloc _⟩
                      case measure => simp [intOf]; omega
                  | true =>
                    cases cg with
                    | true =>
                      have he := HL1.out.2.1 rfl rfl
                      injection he with he1 he2
                      subst he1 he2
                      clear HL1
                      go_upto_region 25 with fail
                      replace OD := Lib.hid (OD.out.alloc (.cells #[.string cn, .string cx, .bool true] 69))
                      replace OY := Lib.hid (OY.out.alloc (.cells #[.string cn, .string cx, .bool true] 69))
                      have OC := Lib.hid (Own.new w15 69 [.string cn, .string cx, .bool true])
                      replace HD := Lib.hid (HD.out.go ((Kept.refl w15).alloc (.cells #[.string cn, .string cx, .bool true] 69)) (Ext.refl _ _))
                      replace HDX := Lib.hid (HDX.out.go ((Kept.refl w15).alloc (.cells #[.string cn, .string cx, .bool true] 69)) (Ext.refl _ _))
                      replace K9 := K9.alloc (.cells #[.string cn, .string cx, .bool true] 69)
                      generalize (w15.alloc (.cells #[.string cn, .string cx, .bool true] 69)) = w16 at *
                      have CC0 : ∀ W', Kept w16 W' → W'.cell? ⟨w15.heap.size, 0, none⟩ = some (.string cn) := fun W' hk => (OC.out.kept hk).cell? 0
                      have CC1 : ∀ W', Kept w16 W' → W'.cell? ⟨w15.heap.size, 1, none⟩ = some (.string cx) := fun W' hk => (OC.out.kept hk).cell? 1
                      have CC2 : ∀ W', Kept w16 W' → W'.cell? ⟨w15.heap.size, 2, none⟩ = some (.bool true) := fun W' hk => (OC.out.kept hk).cell? 2
                      refine wp_region_Z (S := fun W' => Kept w16 W') (Z := []) (by kernel_rfl) ((Kept.refl w16).drew) (fun hHeld => ?_)
                      have kr := (Kept.refl w16).drew
                      have K9r := K9
                      have zr := K9.size
                      have ODr := OD
                      have OYr := OY
                      have OCr := OC
                      have HDr := HD
                      have HDXr := HDX
                      replace OD := Lib.hid (ODr.out.kept kr)
                      replace OY := Lib.hid (OYr.out.kept kr)
                      replace OC := Lib.hid (OCr.out.kept kr)
                      replace HD := Lib.hid (HDr.out.go kr (Ext.refl _ _))
                      replace HDX := Lib.hid (HDXr.out.go kr (Ext.refl _ _))
                      replace K9 := K9r.trans kr
                      generalize w16.drew = w17 at *
                      refine wpAnyZ_take (i := 0) (oi := { dst := some 107, op := Op.fieldAddr 69 (Operand.tmp 24) 1, type := 0, pos := "law.go:145", after := #[], guard := none }) (v := ?_) rfl (by kernel_rfl) (fun _ _ _ h => h) (Or.inl ⟨by rfl, ?_⟩) (by assumption) ?_
                      rotate_left
                      · (intro wz hSw; (try dsimp only at hSw); go_simp; (try with_reducible rfl))
                      (try simp only [Act.put, List.setIfInBounds_toArray, List.set_cons_zero, List.set_cons_succ])
                      refine wpAnyZ_take (i := 1) (oi := { dst := some 108, op := Op.load 9 (Operand.tmp 107), type := 9, pos := "law.go:145", after := #[{ on := 0, ground := Ground.data }], guard := none }) (v := ?_) rfl (by kernel_rfl) (fun _ _ _ h => h) (Or.inl ⟨by rfl, ?_⟩) (by assumption) ?_
                      rotate_left
                      · (intro wz hSw; (try dsimp only at hSw); go_simp; (try with_reducible rfl))
                      (try simp only [Act.put, List.setIfInBounds_toArray, List.set_cons_zero, List.set_cons_succ])
                      refine wpAnyZ_take (i := 2) (oi := { dst := some 109, op := Op.fieldAddr 69 (Operand.tmp 24) 2, type := 0, pos := "law.go:145", after := #[{ on := 5, ground := Ground.gcOnly Departure.lateStores }], guard := none }) (v := ?_) rfl (by kernel_rfl) (fun _ _ _ h => h) (Or.inl ⟨by rfl, ?_⟩) (by assumption) ?_
                      rotate_left
                      · (intro wz hSw; (try dsimp only at hSw); go_simp; (try with_reducible rfl))
                      (try simp only [Act.put, List.setIfInBounds_toArray, List.set_cons_zero, List.set_cons_succ])
                      refine wpAnyZ_take (i := 3) (oi := { dst := some 110, op := Op.load 4 (Operand.tmp 109), type := 4, pos := "law.go:145", after := #[{ on := 2, ground := Ground.data }, { on := 5, ground := Ground.gcOnly Departure.lateStores }], guard := none }) (v := ?_) rfl (by kernel_rfl) (fun _ _ _ h => h) (Or.inl ⟨by rfl, ?_⟩) (by assumption) ?_
                      rotate_left
                      · (intro wz hSw; (try dsimp only at hSw); go_simp; (try with_reducible rfl))
                      (try simp only [Act.put, List.setIfInBounds_toArray, List.set_cons_zero, List.set_cons_succ])
                      refine wpAnyZ_take (i := 4) (oi := { dst := some 111, op := Op.unOp UnOp.not 4 (Operand.tmp 110), type := 4, pos := "law.go:145", after := #[{ on := 3, ground := Ground.data }, { on := 5, ground := Ground.gcOnly Departure.lateStores }], guard := none }) (v := ?_) rfl (by kernel_rfl) (fun _ _ _ h => h) (Or.inl ⟨by rfl, ?_⟩) (by assumption) ?_
                      rotate_left
                      · (intro wz hSw; (try dsimp only at hSw); go_simp; (try with_reducible rfl))
                      (try simp only [Act.put, List.setIfInBounds_toArray, List.set_cons_zero, List.set_cons_succ])
                      refine wpAnyZ_take (i := 5) (oi := { dst := some 20, op := Op.assign (Operand.tmp 108), type := 9, pos := "law.go:145", after := #[{ on := 1, ground := Ground.data }, { on := 0, ground := Ground.phase }, { on := 1, ground := Ground.phase }, { on := 2, ground := Ground.textOnly Departure.lateStores }, { on := 3, ground := Ground.textOnly Departure.lateStores }, { on := 4, ground := Ground.textOnly Departure.lateStores }], guard := none }) (v := ?_) rfl (by kernel_rfl) (fun _ _ _ h => h) (Or.inl ⟨by rfl, ?_⟩) (by assumption) ?_
                      rotate_left
                      · (intro wz hSw; (try dsimp only at hSw); go_simp; (try with_reducible rfl))
                      (try simp only [Act.put, List.setIfInBounds_toArray, List.set_cons_zero, List.set_cons_succ])
                      refine wpAnyZ_take (i := 6) (oi := { dst := some 21, op := Op.assign (Operand.tmp 111), type := 4, pos := "law.go:145", after := #[{ on := 4, ground := Ground.data }, { on := 5, ground := Ground.chain }, { on := 0, ground := Ground.phase }, { on := 1, ground := Ground.phase }, { on := 2, ground := Ground.phase }, { on := 3, ground := Ground.phase }, { on := 4, ground := Ground.phase }, { on := 5, ground := Ground.phase }], guard := none }) (v := ?_) rfl (by kernel_rfl) (fun _ _ _ h => h) (Or.inl ⟨by rfl, ?_⟩) (by assumption) ?_
                      rotate_left
                      · (intro wz hSw; (try dsimp only at hSw); go_simp; (try with_reducible rfl))
                      (try simp only [Act.put, List.setIfInBounds_toArray, List.set_cons_zero, List.set_cons_succ])
                      refine wpAnyZ_done (by kernel_rfl) ?_ _
                      clear CC0 CC1 CC2 ODr OYr OCr HDr HDXr K9r zr hHeld kr
                      obtain ⟨cC0, cC1, cC2, fC0, fC1, fC2⟩ := OC.out.three
                      go_wp2
                      go_roundw
                      case rel => exact ⟨k + 1, by omega, by go_num, K9⟩
                      case measure => simp [intOf]; omega
                    | false =>
                      have he := HL1.out.2.2 rfl rfl
                      injection he with he1 he2
                      subst he1 he2
                      clear HL1
                      go_upto_region 25 with fail
                      replace OD := Lib.hid (OD.out.alloc (.cells #[.string cn, .string s2, .bool false] 69))
                      replace OY := Lib.hid (OY.out.alloc (.cells #[.string cn, .string s2, .bool false] 69))
                      have OC := Lib.hid (Own.new w15 69 [.string cn, .string s2, .bool false])
                      replace HD := Lib.hid (HD.out.go ((Kept.refl w15).alloc (.cells #[.string cn, .string s2, .bool false] 69)) (Ext.refl _ _))
                      replace HDX := Lib.hid (HDX.out.go ((Kept.refl w15).alloc (.cells #[.string cn, .string s2, .bool false] 69)) (Ext.refl _ _))
                      replace K9 := K9.alloc (.cells #[.string cn, .string s2, .bool false] 69)
                      generalize (w15.alloc (.cells #[.string cn, .string s2, .bool false] 69)) = w16 at *
                      have CC0 : ∀ W', Kept w16 W' → W'.cell? ⟨w15.heap.size, 0, none⟩ = some (.string cn) := fun W' hk => (OC.out.kept hk).cell? 0
                      have CC1 : ∀ W', Kept w16 W' → W'.cell? ⟨w15.heap.size, 1, none⟩ = some (.string s2) := fun W' hk => (OC.out.kept hk).cell? 1
                      have CC2 : ∀ W', Kept w16 W' → W'.cell? ⟨w15.heap.size, 2, none⟩ = some (.bool false) := fun W' hk => (OC.out.kept hk).cell? 2
                      refine wp_region_Z (S := fun W' => Kept w16 W') (Z := []) (by kernel_rfl) ((Kept.refl w16).drew) (fun hHeld => ?_)
                      have kr := (Kept.refl w16).drew
                      have K9r := K9
                      have zr := K9.size
                      have ODr := OD
                      have OYr := OY
                      have OCr := OC
                      have HDr := HD
                      have HDXr := HDX
                      replace OD := Lib.hid (ODr.out.kept kr)
                      replace OY := Lib.hid (OYr.out.kept kr)
                      replace OC := Lib.hid (OCr.out.kept kr)
                      replace HD := Lib.hid (HDr.out.go kr (Ext.refl _ _))
                      replace HDX := Lib.hid (HDXr.out.go kr (Ext.refl _ _))
                      replace K9 := K9r.trans kr
                      generalize w16.drew = w17 at *
                      refine wpAnyZ_take (i := 0) (oi := { dst := some 107, op := Op.fieldAddr 69 (Operand.tmp 24) 1, type := 0, pos := "law.go:145", after := #[], guard := none }) (v := ?_) rfl (by kernel_rfl) (fun _ _ _ h => h) (Or.inl ⟨by rfl, ?_⟩) (by assumption) ?_
                      rotate_left
                      · (intro wz hSw; (try dsimp only at hSw); go_simp; (try with_reducible rfl))
                      (try simp only [Act.put, List.setIfInBounds_toArray, List.set_cons_zero, List.set_cons_succ])
                      refine wpAnyZ_take (i := 1) (oi := { dst := some 108, op := Op.load 9 (Operand.tmp 107), type := 9, pos := "law.go:145", after := #[{ on := 0, ground := Ground.data }], guard := none }) (v := ?_) rfl (by kernel_rfl) (fun _ _ _ h => h) (Or.inl ⟨by rfl, ?_⟩) (by assumption) ?_
                      rotate_left
                      · (intro wz hSw; (try dsimp only at hSw); go_simp; (try with_reducible rfl))
                      (try simp only [Act.put, List.setIfInBounds_toArray, List.set_cons_zero, List.set_cons_succ])
                      refine wpAnyZ_take (i := 2) (oi := { dst := some 109, op := Op.fieldAddr 69 (Operand.tmp 24) 2, type := 0, pos := "law.go:145", after := #[{ on := 5, ground := Ground.gcOnly Departure.lateStores }], guard := none }) (v := ?_) rfl (by kernel_rfl) (fun _ _ _ h => h) (Or.inl ⟨by rfl, ?_⟩) (by assumption) ?_
                      rotate_left
                      · (intro wz hSw; (try dsimp only at hSw); go_simp; (try with_reducible rfl))
                      (try simp only [Act.put, List.setIfInBounds_toArray, List.set_cons_zero, List.set_cons_succ])
                      refine wpAnyZ_take (i := 3) (oi := { dst := some 110, op := Op.load 4 (Operand.tmp 109), type := 4, pos := "law.go:145", after := #[{ on := 2, ground := Ground.data }, { on := 5, ground := Ground.gcOnly Departure.lateStores }], guard := none }) (v := ?_) rfl (by kernel_rfl) (fun _ _ _ h => h) (Or.inl ⟨by rfl, ?_⟩) (by assumption) ?_
                      rotate_left
                      · (intro wz hSw; (try dsimp only at hSw); go_simp; (try with_reducible rfl))
                      (try simp only [Act.put, List.setIfInBounds_toArray, List.set_cons_zero, List.set_cons_succ])
                      refine wpAnyZ_take (i := 4) (oi := { dst := some 111, op := Op.unOp UnOp.not 4 (Operand.tmp 110), type := 4, pos := "law.go:145", after := #[{ on := 3, ground := Ground.data }, { on := 5, ground := Ground.gcOnly Departure.lateStores }], guard := none }) (v := ?_) rfl (by kernel_rfl) (fun _ _ _ h => h) (Or.inl ⟨by rfl, ?_⟩) (by assumption) ?_
                      rotate_left
                      · (intro wz hSw; (try dsimp only at hSw); go_simp; (try with_reducible rfl))
                      (try simp only [Act.put, List.setIfInBounds_toArray, List.set_cons_zero, List.set_cons_succ])
                      refine wpAnyZ_take (i := 5) (oi := { dst := some 20, op := Op.assign (Operand.tmp 108), type := 9, pos := "law.go:145", after := #[{ on := 1, ground := Ground.data }, { on := 0, ground := Ground.phase }, { on := 1, ground := Ground.phase }, { on := 2, ground := Ground.textOnly Departure.lateStores }, { on := 3, ground := Ground.textOnly Departure.lateStores }, { on := 4, ground := Ground.textOnly Departure.lateStores }], guard := none }) (v := ?_) rfl (by kernel_rfl) (fun _ _ _ h => h) (Or.inl ⟨by rfl, ?_⟩) (by assumption) ?_
                      rotate_left
                      · (intro wz hSw; (try dsimp only at hSw); go_simp; (try with_reducible rfl))
                      (try simp only [Act.put, List.setIfInBounds_toArray, List.set_cons_zero, List.set_cons_succ])
                      refine wpAnyZ_take (i := 6) (oi := { dst := some 21, op := Op.assign (Operand.tmp 111), type := 4, pos := "law.go:145", after := #[{ on := 4, ground := Ground.data }, { on := 5, ground := Ground.chain }, { on := 0, ground := Ground.phase }, { on := 1, ground := Ground.phase }, { on := 2, ground := Ground.phase }, { on := 3, ground := Ground.phase }, { on := 4, ground := Ground.phase }, { on := 5, ground := Ground.phase }], guard := none }) (v := ?_) rfl (by kernel_rfl) (fun _ _ _ h => h) (Or.inl ⟨by rfl, ?_⟩) (by assumption) ?_
                      rotate_left
                      · (intro wz hSw; (try dsimp only at hSw); go_simp; (try with_reducible rfl))
                      (try simp only [Act.put, List.setIfInBounds_toArray, List.set_cons_zero, List.set_cons_succ])
                      refine wpAnyZ_done (by kernel_rfl) ?_ _
                      clear CC0 CC1 CC2 ODr OYr OCr HDr HDXr K9r zr hHeld kr
                      obtain ⟨cC0, cC1, cC2, fC0, fC1, fC2⟩ := OC.out.three
                      go_wp2
                      go_roundw
                      case rel => exact ⟨k + 1, by omega, by go_num, K9⟩
                      case measure => simp [intOf]; omega
                · obtain rfl : k = NZ.length := by omega
                  replace K := K.trans K9
                  obtain ⟨cD0, cD1, fD0, fD1⟩ := OD.out.two
                  obtain ⟨cY0, cY1, fY0, fY1⟩ := OY.out.two
                  go_wp2_with fail
                  refine (awake12 _ (HT.out.kept K)).mono ?_
                  rintro e w13 ⟨rfl, hk⟩
                  clear cD0 cD1 fD0 fD1 cY0 cY1 fY0 fY1
                  replace OD := Lib.hid (OD.out.kept hk)
                  replace OY := Lib.hid (OY.out.kept hk)
                  replace HD := Lib.hid (HD.out.go hk (Ext.refl _ _))
                  replace HDX := Lib.hid (HDX.out.go hk (Ext.refl _ _))
                  replace K := K.trans hk
                  clear hk
                  go_wp2
                  go_ret
                  exact ⟨rfl, K⟩
            refine AllReadyZ.cons (o := { dst := some 81, op := Op.buildSlice 22 1 #[(0, Operand.tmp 80)], type := 22, pos := "law.go:140", after := #[{ on := 5, ground := Ground.data }], guard := none }) rfl (fun KK hKK => ?_) AllReadyZ.nil
            go_simp
            have OX := Lib.hid (Own.new w7 9 [.string nx0])
            replace kr := kr.alloc (.cells #[.string nx0] 9)
            clear hHeld
            replace OD := Lib.hid (ODr.out.kept kr)
            replace OY := Lib.hid (OYr.out.kept kr)
            replace HD := Lib.hid (HDr.out.go kr (Ext.refl _ _))
            replace HDX := Lib.hid (HDXr.out.go kr (Ext.refl _ _))
            replace K := Kr.trans kr
            generalize (w7.alloc (.cells #[.string nx0] 9)) = w8 at *
            generalize w7.heap.size = bX at *
            refine hKK.out _ _ ?_ (fun hHeld => ?_)
            · exact kr
            clear hKK KK
            (try simp only [Act.put, List.setIfInBounds_toArray, List.set_cons_zero, List.set_cons_succ])
            refine wpAnyZ_ready (rs := [1]) (by kernel_rfl) (by simp) ?_
            refine AllReadyZ.cons (o := { dst := some 76, op := Op.call { callee := Callee.value (Operand.func 35), args := #[Operand.tmp 75], argTypes := #[25] }, type := 22, pos := "law.go:140", after := #[{ on := 0, ground := Ground.data }], guard := none }) rfl (fun KK hKK => ?_) AllReadyZ.nil
            go_simp
            refine (names_own dd _ _ (HD.out.weak (fun _ hk => by cases hk))).mono ?_
            rintro e w9 ⟨rA, rfl, hr1, hk⟩
            clear hHeld
            rw [HN1.out] at hr1
            have hnx : ∀ k, rA.ownBlock = some k → k ≠ bX := fun k e => by have h1 := (hr1.lt k e).1; have h2 := OX.out.lt; omega
            have HA : Hid (World.ownsRow w9 w6.heap.size 9 1 rA N1.length (N1.flatMap sC)) := by show World.ownsRow _ _ _ _ _ _ _; rw [← strs_sC]; exact own_low hr1 kr.size
            clear hr1
            replace OX := Lib.hid (OX.out.kept hk)
            replace kr := kr.trans hk
            replace OD := Lib.hid (ODr.out.kept kr)
            replace OY := Lib.hid (OYr.out.kept kr)
            replace HD := Lib.hid (HDr.out.go kr (Ext.refl _ _))
            replace HDX := Lib.hid (HDXr.out.go kr (Ext.refl _ _))
            replace K := Kr.trans kr
            clear hk
            go_wp2_with fail
            refine hKK.out _ _ ?_ (fun hHeld => ?_)
            · exact kr
            clear hKK KK
            (try simp only [Act.put, List.setIfInBounds_toArray, List.set_cons_zero, List.set_cons_succ])
            refine wpAnyZ_ready (rs := [3]) (by kernel_rfl) (by simp) ?_
            refine AllReadyZ.cons (o := { dst := some 78, op := Op.call { callee := Callee.value (Operand.func 35), args := #[Operand.tmp 77], argTypes := #[25] }, type := 22, pos := "law.go:140", after := #[{ on := 2, ground := Ground.data }, { on := 1, ground := Ground.chain }], guard := none }) rfl (fun KK hKK => ?_) AllReadyZ.nil
            go_simp
            refine (names_own xn _ _ (HDX.out.weak (fun _ hk => by cases hk))).mono ?_
            rintro e w10 ⟨rB, rfl, hr2, hk⟩
            clear hHeld
            rw [HN2.out] at hr2
            have HB := Lib.hid (strsAt_row (V := []) hr2 (fun _ h => by cases h))
            clear hr2
            obtain ⟨QB, qb, rfl, _, _, _⟩ := HB.out
            replace HA := Lib.hid (ownsRow_kept HA.out hk)
            replace OX := Lib.hid (OX.out.kept hk)
            replace kr := kr.trans hk
            replace OD := Lib.hid (ODr.out.kept kr)
            replace OY := Lib.hid (OYr.out.kept kr)
            replace HD := Lib.hid (HDr.out.go kr (Ext.refl _ _))
            replace HDX := Lib.hid (HDXr.out.go kr (Ext.refl _ _))
            replace K := Kr.trans kr
            clear hk
            go_wp2_with fail
            refine hKK.out _ _ ?_ (fun hHeld => ?_)
            · exact kr
            clear hKK KK
            (try simp only [Act.put, List.setIfInBounds_toArray, List.set_cons_zero, List.set_cons_succ])
            refine wpAnyZ_ready (rs := [4]) (by kernel_rfl) (by simp) ?_
            refine AllReadyZ.cons (o := { dst := some 79, op := Op.call { callee := Callee.builtin Builtin.append, args := #[Operand.tmp 76, Operand.tmp 78], argTypes := #[22, 22] }, type := 22, pos := "law.go:140", after := #[{ on := 1, ground := Ground.data }, { on := 3, ground := Ground.data }, { on := 3, ground := Ground.chain }], guard := none }) rfl (fun KK hKK => ?_) AllReadyZ.nil
            refine Tryd.elS.step_app rfl _ _ rfl w6.heap.size rA N1 rfl HA.out [] QB qb N2 rfl (by obtain ⟨_, _, e9, _, _, h9⟩ := HB.out; cases e9; rw [← strs_sC]; exact h9) (sC_one _) (by unfold maxLen; omega) (by omega) kr.size ?_
            intro vA w11 hap hgr hat
            replace kr := kr.grown hgr (fun k e => (HA.out.lt k e).1)
            clear hHeld
            have hnx2 := own_ne hat hnx OX.out.lt
            replace OX := Lib.hid (own_grown OX.out hgr hnx)
            clear hnx
            have hnx := hnx2
            clear hnx2
            replace OD := Lib.hid (ODr.out.kept kr)
            replace OY := Lib.hid (OYr.out.kept kr)
            replace HD := Lib.hid (HDr.out.go kr (Ext.refl _ _))
            replace HDX := Lib.hid (HDXr.out.go kr (Ext.refl _ _))
            replace K := Kr.trans kr
            clear HA HB
            have HA := Lib.hid hap
            obtain ⟨AA, cA, rfl, _, _, _⟩ := own_form (V := []) hap (by simp)
            clear hap hgr hat
            have hnA : (N1 ++ N2).length ≤ 64 := by rw [List.length_append]; omega
            generalize N1 ++ N2 = NN at *
            generalize hnA2 : NN.length = nA at *
            have HNA := Lib.hid hnA2
            clear hnA2
            refine hKK.out _ _ ?_ (fun hHeld => ?_)
            · exact kr
            clear hKK KK
            (try simp only [Act.put, List.setIfInBounds_toArray, List.set_cons_zero, List.set_cons_succ])
            refine wpAnyZ_ready (rs := [7]) (by kernel_rfl) (by simp) ?_
            refine AllReadyZ.cons (o := { dst := some 82, op := Op.call { callee := Callee.builtin Builtin.append, args := #[Operand.tmp 79, Operand.tmp 81], argTypes := #[22, 22] }, type := 22, pos := "law.go:140", after := #[{ on := 4, ground := Ground.data }, { on := 6, ground := Ground.data }, { on := 4, ground := Ground.chain }], guard := none }) rfl (fun KK hKK => ?_) AllReadyZ.nil
            refine Tryd.elS.step_app rfl _ _ rfl w6.heap.size (.slice AA nA cA) NN rfl (by rw [HNA.out]; exact HA.out) [] (some ⟨bX, 0, none⟩) 1 [nx0] rfl (OX.out.row (by simp)) (sC_one _) (by rw [HNA.out]; unfold maxLen; simp only [List.length_cons, List.length_nil]; omega) (by rw [HNA.out]; simp only [List.length_cons, List.length_nil]; omega) kr.size ?_
            intro vZ w12 hap hgr hat
            replace kr := kr.grown hgr (fun k e => (HA.out.lt k e).1)
            clear hHeld
            replace OD := Lib.hid (ODr.out.kept kr)
            replace OY := Lib.hid (OYr.out.kept kr)
            replace HD := Lib.hid (HDr.out.go kr (Ext.refl _ _))
            replace HDX := Lib.hid (HDXr.out.go kr (Ext.refl _ _))
            replace K := Kr.trans kr
            clear HA OX hnx
            have HA := Lib.hid hap
            obtain ⟨AZ, cZ, rfl, _, _, _⟩ := own_form (V := []) hap (by simp)
            clear hap hgr hat
            have hnZ : (NN ++ [nx0]).length ≤ 65 := by rw [List.length_append, HNA.out]; simp only [List.length_cons, List.length_nil]; omega
            clear hnA
            generalize NN ++ [nx0] = NZ at *
            generalize hnZ2 : NZ.length = nZ at *
            have HNZ := Lib.hid hnZ2
            clear hnZ2 HNA
            refine hKK.out _ _ ?_ (fun hHeld => ?_)
            · exact kr
            clear hKK KK
            (try simp only [Act.put, List.setIfInBounds_toArray, List.set_cons_zero, List.set_cons_succ])
            refine wpAnyZ_take (i := 8) (oi := { dst := some 83, op := Op.call { callee := Callee.builtin Builtin.len, args := #[Operand.tmp 82], argTypes := #[22] }, type := 3, pos := "law.go:140", after := #[{ on := 7, ground := Ground.data }], guard := none }) (v := ?_) rfl (by kernel_rfl) (fun _ _ _ h => h) (Or.inl ⟨by rfl, ?_⟩) (by assumption) ?_
            rotate_left
            · (intro wz hSw; (try dsimp only at hSw); go_simp; (try with_reducible rfl))
            (try simp only [Act.put, List.setIfInBounds_toArray, List.set_cons_zero, List.set_cons_succ])
            refine wpAnyZ_done (by kernel_rfl) ?_ _
            clear CD0 CD1 CY0 CY1 ODr OYr HDr HDXr Kr zr hHeld kr
            have HS9 := strsAt_row (V := []) (l := NZ) (by rw [strs_sC, HNZ.out]; exact HA.out) (fun _ h => by cases h)
            obtain ⟨_, _, e9, h91, h92, h93⟩ := HS9
            cases e9
            unfold maxLen at h92
            have HNR := Lib.hid h93
            clear h93 HA
            go_wp2_with fail
            go_loopw [84] (fun iv wq => ∃ (k : Nat), k ≤ NZ.length ∧ iv = .int .i64 k ∧ Kept w12 wq) (fun iv _ => NZ.length - (intOf iv).toNat)
            case atStart => exact ⟨0, Nat.zero_le _, rfl, Kept.refl _⟩
            case round =>
              obtain ⟨k, hk, rfl, K9⟩ := hrel
              replace OD := Lib.hid (OD.out.kept K9)
              replace OY := Lib.hid (OY.out.kept K9)
              replace HD := Lib.hid (HD.out.go K9 (Ext.refl _ _))
              replace HDX := Lib.hid (HDX.out.go K9 (Ext.refl _ _))
              by_cases hlt : k < NZ.length
              · have hlt2 : k < NZ.length := hlt
                obtain ⟨b, o, rfl, hb, _, hcs⟩ := (HNR.out.kept K9) (by rw [strs_length]; omega)
                have g1 : wr.cell? ⟨b, o + k, none⟩ = some (.string NZ[k]) := hcs _ _ (strs_at hlt2)
                clear hcs
                generalize NZ[k] = n at *
                clear hlt2
                have HL1 := Lib.hid (HLW.out n)
                have hs1 : Hid (getR dd n = ((getR dd n).1, (getR dd n).2)) := rfl
                generalize hr1 : getR dd n = r1 at *
                generalize hr2 : getR xn n = r2 at *
                generalize hr3 : lastL n l = r3 at *
                have HR1 := Lib.hid hr1
                have HR2 := Lib.hid hr2
                have HR3 := Lib.hid hr3
                clear hr1 hr2 hr3 hs1
                obtain ⟨⟨cn, cx, cg⟩, cb⟩ := r3
                obtain ⟨s1, c1⟩ := r1
                obtain ⟨s2, c2⟩ := r2
                obtain ⟨cD0, cD1, fD0, fD1⟩ := OD.out.two
                obtain ⟨cY0, cY1, fY0, fY1⟩ := OY.out.two
                go_wp2_with fail
                refine (says_any dd n _ _ (HD.out.weak (fun _ hk => by cases hk))).mono ?_
                rintro e w13 ⟨rfl, hk⟩
                clear cD0 cD1 fD0 fD1 cY0 cY1 fY0 fY1
                replace OD := Lib.hid (OD.out.kept hk)
                replace OY := Lib.hid (OY.out.kept hk)
                replace HD := Lib.hid (HD.out.go hk (Ext.refl _ _))
                replace HDX := Lib.hid (HDX.out.go hk (Ext.refl _ _))
                replace K9 := K9.trans hk
                rw [HR1.out]
                clear hk
                obtain ⟨cD0, cD1, fD0, fD1⟩ := OD.out.two
                obtain ⟨cY0, cY1, fY0, fY1⟩ := OY.out.two
                go_wp2_with fail
                refine (says_any xn n _ _ HDX.out).mono ?_
                rintro e w14 ⟨rfl, hk⟩
                clear cD0 cD1 fD0 fD1 cY0 cY1 fY0 fY1
                replace OD := Lib.hid (OD.out.kept hk)
                replace OY := Lib.hid (OY.out.kept hk)
                replace HD := Lib.hid (HD.out.go hk (Ext.refl _ _))
                replace HDX := Lib.hid (HDX.out.go hk (Ext.refl _ _))
                replace K9 := K9.trans hk
                rw [HR2.out]
                clear hk
                obtain ⟨cD0, cD1, fD0, fD1⟩ := OD.out.two
                obtain ⟨cY0, cY1, fY0, fY1⟩ := OY.out.two
                go_wp2_with fail
                refine (last_any l n _ _ (HLS.out.go (K.trans K9) (Ext.refl _ _))).mono ?_
                rintro e w15 ⟨rfl, hk⟩
                clear cD0 cD1 fD0 fD1 cY0 cY1 fY0 fY1
                replace OD := Lib.hid (OD.out.kept hk)
                replace OY := Lib.hid (OY.out.kept hk)
                replace HD := Lib.hid (HD.out.go hk (Ext.refl _ _))
                replace HDX := Lib.hid (HDX.out.go hk (Ext.refl _ _))
                replace K9 := K9.trans hk
                rw [HR3.out]
                dsimp only [chgC] at HL1 ⊢
                clear hk
                cases cb with
                | false =>
                  have he := HL1.out.1 rfl
                  injection he with he1 he2
                  subst he1 he2
                  clear HL1
                  generalize (c2 == 0) = hb at *
                  cases hb with
                  | true =>
                    go_wp2
                    go_roundw
                    case rel => exact ⟨k + 1, by omega, by go_num, K9.alloc _⟩
                    case measure => simp [intOf]; omega
                  | false =>
                    go_wp2
                    go_roundw
                    case rel => exact ⟨k + 1, by omega, by go_num, K9.alloc _⟩
                    case measure => simp [intOf]; omega
                | true =>
                  cases cg with
                  | true =>
                    have he := HL1.out.2.1 rfl rfl
                    injection he with he1 he2
                    subst he1 he2
                    clear HL1
                    go_upto_region 25 with fail
                    replace OD := Lib.hid (OD.out.alloc (.cells #[.string cn, .string cx, .bool true] 69))
                    replace OY := Lib.hid (OY.out.alloc (.cells #[.string cn, .string cx, .bool true] 69))
                    have OC := Lib.hid (Own.new w15 69 [.string cn, .string cx, .bool true])
                    replace HD := Lib.hid (HD.out.go ((Kept.refl w15).alloc (.cells #[.string cn, .string cx, .bool true] 69)) (Ext.refl _ _))
                    replace HDX := Lib.hid (HDX.out.go ((Kept.refl w15).alloc (.cells #[.string cn, .string cx, .bool true] 69)) (Ext.refl _ _))
                    replace K9 := K9.alloc (.cells #[.string cn, .string cx, .bool true] 69)
                    generalize (w15.alloc (.cells #[.string cn, .string cx, .bool true] 69)) = w16 at *
                    have CC0 : ∀ W', Kept w16 W' → W'.cell? ⟨w15.heap.size, 0, none⟩ = some (.string cn) := fun W' hk => (OC.out.kept hk).cell? 0
                    have CC1 : ∀ W', Kept w16 W' → W'.cell? ⟨w15.heap.size, 1, none⟩ = some (.string cx) := fun W' hk => (OC.out.kept hk).cell? 1
                    have CC2 : ∀ W', Kept w16 W' → W'.cell? ⟨w15.heap.size, 2, none⟩ = some (.bool true) := fun W' hk => (OC.out.kept hk).cell? 2
                    refine wp_region_Z (S := fun W' => Kept w16 W') (Z := []) (by kernel_rfl) ((Kept.refl w16).drew) (fun hHeld => ?_)
                    have kr := (Kept.refl w16).drew
                    have K9r := K9
                    have zr := K9.size
                    have ODr := OD
                    have OYr := OY
                    have OCr := OC
                    have HDr := HD
                    have HDXr := HDX
                    replace OD := Lib.hid (ODr.out.kept kr)
                    replace OY := Lib.hid (OYr.out.kept kr)
                    replace OC := Lib.hid (OCr.out.kept kr)
                    replace HD := Lib.hid (HDr.out.go kr (Ext.refl _ _))
                    replace HDX := Lib.hid (HDXr.out.go kr (Ext.refl _ _))
                    replace K9 := K9r.trans kr
                    generalize w16.drew = w17 at *
                    refine wpAnyZ_take (i := 0) (oi := { dst := some 107, op := Op.fieldAddr 69 (Operand.tmp 24) 1, type := 0, pos := "law.go:145", after := #[], guard := none }) (v := ?_) rfl (by kernel_rfl) (fun _ _ _ h => h) (Or.inl ⟨by rfl, ?_⟩) (by assumption) ?_
                    rotate_left
                    · (intro wz hSw; (try dsimp only at hSw); go_simp; (try with_reducible rfl))
                    (try simp only [Act.put, List.setIfInBounds_toArray, List.set_cons_zero, List.set_cons_succ])
                    refine wpAnyZ_take (i := 1) (oi := { dst := some 108, op := Op.load 9 (Operand.tmp 107), type := 9, pos := "law.go:145", after := #[{ on := 0, ground := Ground.data }], guard := none }) (v := ?_) rfl (by kernel_rfl) (fun _ _ _ h => h) (Or.inl ⟨by rfl, ?_⟩) (by assumption) ?_
                    rotate_left
                    · (intro wz hSw; (try dsimp only at hSw); go_simp; (try with_reducible rfl))
                    (try simp only [Act.put, List.setIfInBounds_toArray, List.set_cons_zero, List.set_cons_succ])
                    refine wpAnyZ_take (i := 2) (oi := { dst := some 109, op := Op.fieldAddr 69 (Operand.tmp 24) 2, type := 0, pos := "law.go:145", after := #[{ on := 5, ground := Ground.gcOnly Departure.lateStores }], guard := none }) (v := ?_) rfl (by kernel_rfl) (fun _ _ _ h => h) (Or.inl ⟨by rfl, ?_⟩) (by assumption) ?_
                    rotate_left
                    · (intro wz hSw; (try dsimp only at hSw); go_simp; (try with_reducible rfl))
                    (try simp only [Act.put, List.setIfInBounds_toArray, List.set_cons_zero, List.set_cons_succ])
                    refine wpAnyZ_take (i := 3) (oi := { dst := some 110, op := Op.load 4 (Operand.tmp 109), type := 4, pos := "law.go:145", after := #[{ on := 2, ground := Ground.data }, { on := 5, ground := Ground.gcOnly Departure.lateStores }], guard := none }) (v := ?_) rfl (by kernel_rfl) (fun _ _ _ h => h) (Or.inl ⟨by rfl, ?_⟩) (by assumption) ?_
                    rotate_left
                    · (intro wz hSw; (try dsimp only at hSw); go_simp; (try with_reducible rfl))
                    (try simp only [Act.put, List.setIfInBounds_toArray, List.set_cons_zero, List.set_cons_succ])
                    refine wpAnyZ_take (i := 4) (oi := { dst := some 111, op := Op.unOp UnOp.not 4 (Operand.tmp 110), type := 4, pos := "law.go:145", after := #[{ on := 3, ground := Ground.data }, { on := 5, ground := Ground.gcOnly Departure.lateStores }], guard := none }) (v := ?_) rfl (by kernel_rfl) (fun _ _ _ h => h) (Or.inl ⟨by rfl, ?_⟩) (by assumption) ?_
                    rotate_left
                    · (intro wz hSw; (try dsimp only at hSw); go_simp; (try with_reducible rfl))
                    (try simp only [Act.put, List.setIfInBounds_toArray, List.set_cons_zero, List.set_cons_succ])
                    refine wpAnyZ_take (i := 5) (oi := { dst := some 20, op := Op.assign (Operand.tmp 108), type := 9, pos := "law.go:145", after := #[{ on := 1, ground := Ground.data }, { on := 0, ground := Ground.phase }, { on := 1, ground := Ground.phase }, { on := 2, ground := Ground.textOnly Departure.lateStores }, { on := 3, ground := Ground.textOnly Departure.lateStores }, { on := 4, ground := Ground.textOnly Departure.lateStores }], guard := none }) (v := ?_) rfl (by kernel_rfl) (fun _ _ _ h => h) (Or.inl ⟨by rfl, ?_⟩) (by assumption) ?_
                    rotate_left
                    · (intro wz hSw; (try dsimp only at hSw); go_simp; (try with_reducible rfl))
                    (try simp only [Act.put, List.setIfInBounds_toArray, List.set_cons_zero, List.set_cons_succ])
                    refine wpAnyZ_take (i := 6) (oi := { dst := some 21, op := Op.assign (Operand.tmp 111), type := 4, pos := "law.go:145", after := #[{ on := 4, ground := Ground.data }, { on := 5, ground := Ground.chain }, { on := 0, ground := Ground.phase }, { on := 1, ground := Ground.phase }, { on := 2, ground := Ground.phase }, { on := 3, ground := Ground.phase }, { on := 4, ground := Ground.phase }, { on := 5, ground := Ground.phase }], guard := none }) (v := ?_) rfl (by kernel_rfl) (fun _ _ _ h => h) (Or.inl ⟨by rfl, ?_⟩) (by assumption) ?_
                    rotate_left
                    · (intro wz hSw; (try dsimp only at hSw); go_simp; (try with_reducible rfl))
                    (try simp only [Act.put, List.setIfInBounds_toArray, List.set_cons_zero, List.set_cons_succ])
                    refine wpAnyZ_done (by kernel_rfl) ?_ _
                    clear CC0 CC1 CC2 ODr OYr OCr HDr HDXr K9r zr hHeld kr
                    obtain ⟨cC0, cC1, cC2, fC0, fC1, fC2⟩ := OC.out.three
                    go_wp2
                    go_roundw
                    case rel => exact ⟨k + 1, by omega, by go_num, K9⟩
                    case measure => simp [intOf]; omega
                  | false =>
                    have he := HL1.out.2.2 rfl rfl
                    injection he with he1 he2
                    subst he1 he2
                    clear HL1
                    go_upto_region 25 with fail
                    replace OD := Lib.hid (OD.out.alloc (.cells #[.string cn, .string s2, .bool false] 69))
                    replace OY := Lib.hid (OY.out.alloc (.cells #[.string cn, .string s2, .bool false] 69))
                    have OC := Lib.hid (Own.new w15 69 [.string cn, .string s2, .bool false])
                    replace HD := Lib.hid (HD.out.go ((Kept.refl w15).alloc (.cells #[.string cn, .string s2, .bool false] 69)) (Ext.refl _ _))
                    replace HDX := Lib.hid (HDX.out.go ((Kept.refl w15).alloc (.cells #[.string cn, .string s2, .bool false] 69)) (Ext.refl _ _))
                    replace K9 := K9.alloc (.cells #[.string cn, .string s2, .bool false] 69)
                    generalize (w15.alloc (.cells #[.string cn, .string s2, .bool false] 69)) = w16 at *
                    have CC0 : ∀ W', Kept w16 W' → W'.cell? ⟨w15.heap.size, 0, none⟩ = some (.string cn) := fun W' hk => (OC.out.kept hk).cell? 0
                    have CC1 : ∀ W', Kept w16 W' → W'.cell? ⟨w15.heap.size, 1, none⟩ = some (.string s2) := fun W' hk => (OC.out.kept hk).cell? 1
                    have CC2 : ∀ W', Kept w16 W' → W'.cell? ⟨w15.heap.size, 2, none⟩ = some (.bool false) := fun W' hk => (OC.out.kept hk).cell? 2
                    refine wp_region_Z (S := fun W' => Kept w16 W') (Z := []) (by kernel_rfl) ((Kept.refl w16).drew) (fun hHeld => ?_)
                    have kr := (Kept.refl w16).drew
                    have K9r := K9
                    have zr := K9.size
                    have ODr := OD
                    have OYr := OY
                    have OCr := OC
                    have HDr := HD
                    have HDXr := HDX
                    replace OD := Lib.hid (ODr.out.kept kr)
                    replace OY := Lib.hid (OYr.out.kept kr)
                    replace OC := Lib.hid (OCr.out.kept kr)
                    replace HD := Lib.hid (HDr.out.go kr (Ext.refl _ _))
                    replace HDX := Lib.hid (HDXr.out.go kr (Ext.refl _ _))
                    replace K9 := K9r.trans kr
                    generalize w16.drew = w17 at *
                    refine wpAnyZ_take (i := 0) (oi := { dst := some 107, op := Op.fieldAddr 69 (Operand.tmp 24) 1, type := 0, pos := "law.go:145", after := #[], guard := none }) (v := ?_) rfl (by kernel_rfl) (fun _ _ _ h => h) (Or.inl ⟨by rfl, ?_⟩) (by assumption) ?_
                    rotate_left
                    · (intro wz hSw; (try dsimp only at hSw); go_simp; (try with_reducible rfl))
                    (try simp only [Act.put, List.setIfInBounds_toArray, List.set_cons_zero, List.set_cons_succ])
                    refine wpAnyZ_take (i := 1) (oi := { dst := some 108, op := Op.load 9 (Operand.tmp 107), type := 9, pos := "law.go:145", after := #[{ on := 0, ground := Ground.data }], guard := none }) (v := ?_) rfl (by kernel_rfl) (fun _ _ _ h => h) (Or.inl ⟨by rfl, ?_⟩) (by assumption) ?_
                    rotate_left
                    · (intro wz hSw; (try dsimp only at hSw); go_simp; (try with_reducible rfl))
                    (try simp only [Act.put, List.setIfInBounds_toArray, List.set_cons_zero, List.set_cons_succ])
                    refine wpAnyZ_take (i := 2) (oi := { dst := some 109, op := Op.fieldAddr 69 (Operand.tmp 24) 2, type := 0, pos := "law.go:145", after := #[{ on := 5, ground := Ground.gcOnly Departure.lateStores }], guard := none }) (v := ?_) rfl (by kernel_rfl) (fun _ _ _ h => h) (Or.inl ⟨by rfl, ?_⟩) (by assumption) ?_
                    rotate_left
                    · (intro wz hSw; (try dsimp only at hSw); go_simp; (try with_reducible rfl))
                    (try simp only [Act.put, List.setIfInBounds_toArray, List.set_cons_zero, List.set_cons_succ])
                    refine wpAnyZ_take (i := 3) (oi := { dst := some 110, op := Op.load 4 (Operand.tmp 109), type := 4, pos := "law.go:145", after := #[{ on := 2, ground := Ground.data }, { on := 5, ground := Ground.gcOnly Departure.lateStores }], guard := none }) (v := ?_) rfl (by kernel_rfl) (fun _ _ _ h => h) (Or.inl ⟨by rfl, ?_⟩) (by assumption) ?_
                    rotate_left
                    · (intro wz hSw; (try dsimp only at hSw); go_simp; (try with_reducible rfl))
                    (try simp only [Act.put, List.setIfInBounds_toArray, List.set_cons_zero, List.set_cons_succ])
                    refine wpAnyZ_take (i := 4) (oi := { dst := some 111, op := Op.unOp UnOp.not 4 (Operand.tmp 110), type := 4, pos := "law.go:145", after := #[{ on := 3, ground := Ground.data }, { on := 5, ground := Ground.gcOnly Departure.lateStores }], guard := none }) (v := ?_) rfl (by kernel_rfl) (fun _ _ _ h => h) (Or.inl ⟨by rfl, ?_⟩) (by assumption) ?_
                    rotate_left
                    · (intro wz hSw; (try dsimp only at hSw); go_simp; (try with_reducible rfl))
                    (try simp only [Act.put, List.setIfInBounds_toArray, List.set_cons_zero, List.set_cons_succ])
                    refine wpAnyZ_take (i := 5) (oi := { dst := some 20, op := Op.assign (Operand.tmp 108), type := 9, pos := "law.go:145", after := #[{ on := 1, ground := Ground.data }, { on := 0, ground := Ground.phase }, { on := 1, ground := Ground.phase }, { on := 2, ground := Ground.textOnly Departure.lateStores }, { on := 3, ground := Ground.textOnly Departure.lateStores }, { on := 4, ground := Ground.textOnly Departure.lateStores }], guard := none }) (v := ?_) rfl (by kernel_rfl) (fun _ _ _ h => h) (Or.inl ⟨by rfl, ?_⟩) (by assumption) ?_
                    rotate_left
                    · (intro wz hSw; (try dsimp only at hSw); go_simp; (try with_reducible rfl))
                    (try simp only [Act.put, List.setIfInBounds_toArray, List.set_cons_zero, List.set_cons_succ])
                    refine wpAnyZ_take (i := 6) (oi := { dst := some 21, op := Op.assign (Operand.tmp 111), type := 4, pos := "law.go:145", after := #[{ on := 4, ground := Ground.data }, { on := 5, ground := Ground.chain }, { on := 0, ground := Ground.phase }, { on := 1, ground := Ground.phase }, { on := 2, ground := Ground.phase }, { on := 3, ground := Ground.phase }, { on := 4, ground := Ground.phase }, { on := 5, ground := Ground.phase }], guard := none }) (v := ?_) rfl (by kernel_rfl) (fun _ _ _ h => h) (Or.inl ⟨by rfl, ?_⟩) (by assumption) ?_
                    rotate_left
                    · (intro wz hSw; (try dsimp only at hSw); go_simp; (try with_reducible rfl))
                    (try simp only [Act.put, List.setIfInBounds_toArray, List.set_cons_zero, List.set_cons_succ])
                    refine wpAnyZ_done (by kernel_rfl) ?_ _
                    clear CC0 CC1 CC2 ODr OYr OCr HDr HDXr K9r zr hHeld kr
                    obtain ⟨cC0, cC1, cC2, fC0, fC1, fC2⟩ := OC.out.three
                    go_wp2
                    go_roundw
                    case rel => exact ⟨k + 1, by omega, by go_num, K9⟩
                    case measure => simp [intOf]; omega
              · obtain rfl : k = NZ.length := by omega
                replace K := K.trans K9
                obtain ⟨cD0, cD1, fD0, fD1⟩ := OD.out.two
                obtain ⟨cY0, cY1, fY0, fY1⟩ := OY.out.two
                go_wp2_with fail
                refine (awake12 _ (HT.out.kept K)).mono ?_
                rintro e w13 ⟨rfl, hk⟩
                clear cD0 cD1 fD0 fD1 cY0 cY1 fY0 fY1
                replace OD := Lib.hid (OD.out.kept hk)
                replace OY := Lib.hid (OY.out.kept hk)
                replace HD := Lib.hid (HD.out.go hk (Ext.refl _ _))
                replace HDX := Lib.hid (HDX.out.go hk (Ext.refl _ _))
                replace K := K.trans hk
                clear hk
                go_wp2
                go_ret
                exact ⟨rfl, K⟩
          · have t1 := bne_t he
            rw [applyR_no he] at hd5 ⊢
            dsimp only [List.length_nil] at hd5 ⊢
            clear hd5
            generalize (applyR dd l).2 = code at *
            clear he
            have hl0 : (([] : List ByteArray).length : Int) = 0 := rfl
            obtain ⟨cD0, cD1, fD0, fD1⟩ := OD.out.two
            go_wp2_with fail
            clear cD0 cD1 fD0 fD1
            replace K := K.alloc (.cells #[.slice A5 0 k5, .slice B5 0 e5] 25)
            refine (awake12 _ (HT.out.kept K)).mono ?_
            rintro e w6 ⟨rfl, hk⟩
            replace K := K.trans hk
            clear hk OD HD
            go_wp2
            go_ret
            exact ⟨rfl, K⟩
    · rw [hl]
      clear hf hl
      go_wp2_with fail
      refine (awake12 _ (HT.out.kept K)).mono ?_
      rintro e w3 ⟨rfl, hk⟩
      replace K := K.trans hk
      clear hk
      go_wp2
      go_ret
      exact ⟨rfl, K⟩
  · rw [hf]
    clear hf
    go_wp2_with fail
    refine (awake12 _ (HT.out.kept K)).mono ?_
    rintro e w2 ⟨rfl, hk⟩
    replace K := K.trans hk
    clear hk
    go_wp2
    go_ret
    exact ⟨rfl, K⟩
end Go.Proofs.YtagpimahicgkmaaDoor
