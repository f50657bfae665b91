/- Walk: mailsackref10.Run. -/
import Derived.Test.YtagpimahicgkmaaDoorR10S
import Derived.Test.YtagpimahicgkmaaDoorRfCrash
import Derived.Test.YtagpimahicgkmaaDoorRput
import Derived.Test.YtagpimahicgkmaaDoorWalR
namespace Go.Proofs.YtagpimahicgkmaaDoor
open Go.RowKit

theorem hasB_upTo (n i : Nat) (h : i < n) : hasB (upTo n) (i : Int) = true := by
  unfold hasB upTo
  rw [List.contains_iff_mem]
  exact List.mem_map.2 ⟨i, List.mem_range.2 h, rfl⟩
theorem rcrash_all {d : Dk} (h : rightB d = true) : (⟨rcrashL d fun (i : Nat) => hasB (upTo d.cache.length) i, []⟩ : Dk) = flushD d := by
  have hn : ∀ x ∈ d.cache, 0 ≤ x.at_ := fun x hx => ((right_parts h).2.2.2 x hx).1
  rw [rcrash_perf _ hn]
  unfold flushD perf
  rw [if_pos h]
  congr 1
  suffices hh : ∀ k, k ≤ d.cache.length → perfTo d.sec d.cache (fun (i : Nat) => hasB (upTo d.cache.length) i) k = perfTo d.sec d.cache (fun _ => true) k from hh _ (Nat.le_refl _)
  intro k
  induction k with
  | zero => intro _; rfl
  | succ k ih =>
    intro hk
    rw [perfTo_yes (by omega) (hasB_upTo _ _ (by omega)), perfTo_yes (by omega) rfl, ih (by omega)]
theorem step_put {d : Dk} {x : Wr} (h : rightB d = true) : stepO d ⟨false, x⟩ = if fitsB x d.sec.length = true then ⟨d.sec, d.cache ++ [x]⟩ else d := by
  rcases Bool.eq_false_or_eq_true (fitsB x d.sec.length) with hf | hf
  · rw [if_pos hf]; exact step_w h hf
  · rw [if_neg (by rw [hf]; simp)]; exact step_n hf
theorem run_zero (d : Dk) (l : List WOp) : runO d l 0 = d := by unfold runO; rw [List.take_zero]; rfl
theorem run_rightB {d : Dk} {l : List WOp} (h : rightB d = true) (k : Nat) : rightB (runO d l k) = true ∧ (runO d l k).sec.length = d.sec.length := fold_right _ h

set_option maxRecDepth 100000 in
set_option maxHeartbeats 4000000 in
theorem rrun_any (d : Dk) (l : List WOp) (v u : Value) (w : World) (h : DkAt [] w v d) (hu : OpsAt [] w u l) (hr : rightB d = true ∨ l.length = 0) (hsl : d.sec.length ≤ 1024) (hcl : d.cache.length ≤ 1000) (hll : l.length ≤ 1000) :
    Calls Tryd.prog 22 #[v, u, .int .i64 (l.length : Int)] w fun e w' => ∃ s' c', e = .returned (.agg #[s', c']) ∧ DkAt [] w' (.agg #[s', c']) (runO d l l.length) ∧ Kept w w' := by
  have HD := Lib.hid h
  have HRT := Lib.hid hr
  have HSL := Lib.hid hsl
  have HCL := Lib.hid hcl
  have HLL := Lib.hid hll
  obtain ⟨_, _, rfl, _, _⟩ := h
  obtain ⟨A0, c0, B0, e0, rfl, rfl⟩ := HD.out.form
  obtain ⟨LA, lc, rfl, hl1, hl2, hlr⟩ := hu
  unfold maxLen at hl2
  have HLR := Lib.hid hlr
  clear hlr hr hsl hcl hll
  generalize hmo : (l.length : Int) = most
  have HMO := Lib.hid hmo
  clear hmo
  generalize hn0 : d.sec.length = n0 at *
  generalize hm0 : d.cache.length = m0 at *
  have HN0 := Lib.hid hn0
  have HM0 := Lib.hid hm0
  clear hn0 hm0
  go_enter Tryd.func22, Tryd.ntmps22
  go_wp2_with fail
  have OD := Lib.hid ((Own.newAt w w.heap.size 29 [.slice A0 n0 c0, .slice B0 m0 e0] (by simp)).alloc (.cells #[.slice none 0 0, .slice none 0 0] 29))
  have OR := Lib.hid (Own.newAt (w.alloc (.cells #[.slice A0 n0 c0, .slice B0 m0 e0] 29)) (w.heap.size + 1) 29 [.slice none 0 0, .slice none 0 0] (by simp))
  have K := (((Kept.refl w).alloc (.cells #[.slice A0 n0 c0, .slice B0 m0 e0] 29)).alloc (.cells #[.slice none 0 0, .slice none 0 0] 29))
  generalize ((w.alloc (.cells #[.slice A0 n0 c0, .slice B0 m0 e0] 29)).alloc (.cells #[.slice none 0 0, .slice none 0 0] 29)) = w1 at *
  obtain ⟨cD0, cD1, fD0, fD1⟩ := OD.out.two
  obtain ⟨cR0, cR1, fR0, fR1⟩ := OR.out.two
  clear cD0 cD1 fD0 fD1 cR0 cR1 fR0 fR1
  replace HD := Lib.hid (HD.out.go K (Ext.cons (k := w.heap.size) (Nat.le_refl _) (Ext.cons (k := w.heap.size + 1) (by omega) (Ext.refl _ _))))
  have hkw := K.size
  have hrl := OR.out.lt
  generalize hs : w.heap.size = s at *
  have HS := Lib.hid hs
  have HS2 := Lib.hid hs
  clear hs
  go_wp2_with fail
  go_loopw [7] (fun iv wq => ∃ (k : Nat), k ≤ l.length ∧ iv = .int .i64 k ∧ ∃ (A : Option Addr) (n c : Nat) (B : Option Addr) (m e : Nat), Hid (Own wq s 29 [.slice A n c, .slice B m e]) ∧ Hid (Own wq (s + 1) 29 [.slice none 0 0, .slice none 0 0]) ∧ Hid (DkAt [s, s + 1] wq (.agg #[.slice A n c, .slice B m e]) (runO d l k)) ∧ Kept w wq) (fun iv _ => l.length - (intOf iv).toNat)
  case atStart => exact ⟨0, Nat.zero_le _, rfl, A0, n0, c0, B0, m0, e0, OD, OR, by rw [run_zero]; exact HD, K⟩
  case round =>
    clear OD OR HD K
    obtain ⟨k, hk, rfl, A1, n1, c1, B1, m1, e1, OD, OR, HD, K⟩ := hrel
    have hkw := K.size
    have hws : w.heap.size ≤ s := by have := HS.out; omega
    by_cases hlt : k < l.length
    · skip
      obtain ⟨hrr, hrl2⟩ := run_rightB (l := l) (HRT.out.resolve_right (by omega)) k
      have hrc := run_cache d l k
      have HRS := Lib.hid (run_succ (d := d) hlt)
      generalize hdn : runO d l (k + 1) = dn at *
      have HDN := Lib.hid hdn
      clear hdn
      generalize runO d l k = dk at *
      obtain ⟨b, o, rfl, hb, _, hcs⟩ := HLR.out (by rw [ops_len]; omega)
      obtain ⟨g1, g2, g3⟩ := ops_at hlt
      have HC1 := Lib.hid (hcs _ _ g1)
      have HC2 := Lib.hid (hcs _ _ g2)
      have HC3 := Lib.hid (hcs _ _ g3)
      clear hcs g1 g2 g3
      generalize l[k] = op at *
      obtain ⟨fl, xa, xd⟩ := op
      dsimp only at HC1 HC2 HC3
      have i0 : (0 : Int) ≤ (k : Int) := by omega
      have i1 : (k : Int) < (l.length : Int) := by omega
      have i2 : (k : Int) < most := by have := HMO.out; omega
      have p1 := (K.cell (p := ⟨b, o + k * 3, none⟩) hb).trans HC1.out
      have HRR := Lib.hid hrr
      have hml : dk.cache.length ≤ 2000 := by have := HCL.out; have := HLL.out; have := HM0.out; omega
      have hsl : dk.sec.length ≤ 1024 := by rw [hrl2]; have := HSL.out; have := HN0.out; omega
      clear hrr hrc hrl2
      cases fl with
      | true =>
        have HRN : Hid (dn = flushD dk) := by show _ = _; rw [HRS.out]; rfl
        clear HRS
        obtain ⟨cD0, cD1, fD0, fD1⟩ := OD.out.two
        obtain ⟨cR0, cR1, fR0, fR1⟩ := OR.out.two
        go_wp2_with fail
        refine (rright_any [s, s + 1] dk _ _ HD.out).mono ?_
        rintro e w2 ⟨rfl, hk⟩
        clear cD0 cD1 fD0 fD1 cR0 cR1 fR0 fR1
        replace OD := Lib.hid (OD.out.kept hk)
        replace OR := Lib.hid (OR.out.kept hk)
        replace HD := Lib.hid (HD.out.go hk (Ext.refl _ _))
        replace K := K.trans hk
        clear hk
        rw [HRR.out]
        have hc2 : m1 = dk.cache.length := by
          obtain ⟨_, _, e9, _, ⟨_, _, e8, _, _⟩⟩ := HD.out
          cases e9
          injection e8
        subst hc2
        go_upto_region 6 with fail
        have CD0 : ∀ W', Kept w2 W' → W'.cell? ⟨s, 0, none⟩ = some (.slice A1 n1 c1) := fun W' hk => (OD.out.kept hk).cell? 0
        have CD1 : ∀ W', Kept w2 W' → W'.cell? ⟨s, 1, none⟩ = some (.slice B1 dk.cache.length e1) := fun W' hk => (OD.out.kept hk).cell? 1
        have CR0 : ∀ W', Kept w2 W' → W'.cell? ⟨(s + 1), 0, none⟩ = some (.slice none 0 0) := fun W' hk => (OR.out.kept hk).cell? 0
        have CR1 : ∀ W', Kept w2 W' → W'.cell? ⟨(s + 1), 1, none⟩ = some (.slice none 0 0) := fun W' hk => (OR.out.kept hk).cell? 1
        refine wp_region_Z (S := fun W' => Kept w2 W') (Z := [6]) (by kernel_rfl) ((Kept.refl w2).drew) (fun hHeld => ?_)
        have kr := (Kept.refl w2).drew
        have Kr := K
        have zr := K.size
        have ODr := OD
        have ORr := OR
        have HDr := HD
        replace OD := Lib.hid (ODr.out.kept kr)
        replace OR := Lib.hid (ORr.out.kept kr)
        replace HD := Lib.hid (HDr.out.go kr (Ext.refl _ _))
        replace K := Kr.trans kr
        generalize w2.drew = w3 at *
        refine wpAnyZ_take (i := 0) (oi := { dst := some 28, op := Op.load 29 (Operand.tmp 3), type := 29, pos := "ref.go:109", after := #[], guard := none }) (v := ?_) rfl (by kernel_rfl) (fun _ _ _ h => h) (Or.inl ⟨by rfl, ?_⟩) (by assumption) ?_
        rotate_left
        · (intro wz hSw; (try dsimp only at hSw); go_simp; (try with_reducible rfl))
        (try simp only [Act.put, List.setIfInBounds_toArray, List.set_cons_zero, List.set_cons_succ])
        refine wpAnyZ_take (i := 1) (oi := { dst := some 29, op := Op.fieldAddr 29 (Operand.tmp 3) 1, type := 0, pos := "ref.go:109", after := #[], guard := none }) (v := ?_) rfl (by kernel_rfl) (fun _ _ _ h => h) (Or.inl ⟨by rfl, ?_⟩) (by assumption) ?_
        rotate_left
        · (intro wz hSw; (try dsimp only at hSw); go_simp; (try with_reducible rfl))
        (try simp only [Act.put, List.setIfInBounds_toArray, List.set_cons_zero, List.set_cons_succ])
        refine wpAnyZ_take (i := 2) (oi := { dst := some 30, op := Op.load 27 (Operand.tmp 29), type := 27, pos := "ref.go:109", after := #[{ on := 1, ground := Ground.data }], guard := none }) (v := ?_) rfl (by kernel_rfl) (fun _ _ _ h => h) (Or.inl ⟨by rfl, ?_⟩) (by assumption) ?_
        rotate_left
        · (intro wz hSw; (try dsimp only at hSw); go_simp; (try with_reducible rfl))
        (try simp only [Act.put, List.setIfInBounds_toArray, List.set_cons_zero, List.set_cons_succ])
        refine wpAnyZ_take (i := 3) (oi := { dst := some 31, op := Op.call { callee := Callee.builtin Builtin.len, args := #[Operand.tmp 30], argTypes := #[27] }, type := 3, pos := "ref.go:109", after := #[{ on := 2, ground := Ground.data }], guard := none }) (v := ?_) rfl (by kernel_rfl) (fun _ _ _ h => h) (Or.inl ⟨by rfl, ?_⟩) (by assumption) ?_
        rotate_left
        · (intro wz hSw; (try dsimp only at hSw); go_simp; (try with_reducible rfl))
        (try simp only [Act.put, List.setIfInBounds_toArray, List.set_cons_zero, List.set_cons_succ])
        refine wpAnyZ_ready (rs := [4]) (by kernel_rfl) (by simp) ?_
        refine AllReadyZ.cons (o := { dst := some 32, op := Op.call { callee := Callee.value (Operand.func 61), args := #[Operand.tmp 31], argTypes := #[3] }, type := 57, pos := "ref.go:109", after := #[{ on := 3, ground := Ground.data }], guard := none }) rfl (fun KK hKK => ?_) AllReadyZ.nil
        go_simp
        refine (all_any [] dk.cache.length w3 (fun _ h => by cases h) (by omega)).mono ?_
        rintro e w4 ⟨QA, qc, rfl, hq, hk⟩
        clear hHeld
        replace kr := kr.trans hk
        replace OD := Lib.hid (ODr.out.kept kr)
        replace OR := Lib.hid (ORr.out.kept kr)
        replace HD := Lib.hid (HDr.out.go kr (Ext.refl _ _))
        replace K := Kr.trans kr
        have HQ := Lib.hid hq
        clear hq
        clear hk
        go_simp
        refine hKK.out _ _ ?_ (fun hHeld => ?_)
        · exact kr
        clear hKK KK
        (try simp only [Act.put, List.setIfInBounds_toArray, List.set_cons_zero, List.set_cons_succ])
        refine wpAnyZ_ready (rs := [5]) (by kernel_rfl) (by simp) ?_
        refine AllReadyZ.cons (o := { dst := some 33, op := Op.call { callee := Callee.value (Operand.func 60), args := #[Operand.tmp 28, Operand.tmp 32], argTypes := #[29, 57] }, type := 29, pos := "ref.go:109", after := #[{ on := 0, ground := Ground.data }, { on := 4, ground := Ground.data }, { on := 4, ground := Ground.chain }], guard := none }) rfl (fun KK hKK => ?_) AllReadyZ.nil
        go_simp
        refine (rcrash_any [s, s + 1] dk (upTo dk.cache.length) _ _ w4 HD.out HQ.out (Old.cons OD.out.lt (Old.cons OR.out.lt (fun _ h => by cases h))) hsl).mono ?_
        rintro e w5 ⟨s2, c2, rfl, hd2, hk⟩
        clear hHeld
        replace kr := kr.trans hk
        replace OD := Lib.hid (ODr.out.kept kr)
        replace OR := Lib.hid (ORr.out.kept kr)
        replace HD := Lib.hid (HDr.out.go kr (Ext.refl _ _))
        replace K := Kr.trans kr
        rw [rcrash_all HRR.out, ← HRN.out] at hd2
        have HD2 := Lib.hid hd2
        obtain ⟨A2, c2, B2, e2, rfl, rfl⟩ := hd2.form
        clear hd2
        generalize dn.sec.length = n2 at *
        generalize dn.cache.length = m2 at *
        clear hk
        go_simp
        refine hKK.out _ _ ?_ (fun hHeld => ?_)
        · exact kr
        clear hKK KK
        (try simp only [Act.put, List.setIfInBounds_toArray, List.set_cons_zero, List.set_cons_succ])
        refine wpAnyZ_ready (rs := [6]) (by kernel_rfl) (by simp) ?_
        refine AllReadyZ.late (o := { dst := none, op := Op.store 29 (Operand.tmp 3) (Operand.tmp 33), type := 0, pos := "ref.go:109", after := #[{ on := 5, ground := Ground.data }, { on := 5, ground := Ground.chain }, { on := 0, ground := Ground.phase }, { on := 1, ground := Ground.phase }, { on := 2, ground := Ground.phase }, { on := 3, ground := Ground.phase }, { on := 4, ground := Ground.phase }, { on := 5, ground := Ground.phase }], guard := none }) rfl (by simp) (fun KK hKK => ?_) AllReadyZ.nil
        have zs := OD.out.lt
        obtain ⟨cD0, cD1, fD0, fD1⟩ := OD.out.two
        go_simp
        clear cD0 cD1 fD0 fD1
        replace OD : Hid (Own ((w5.setCell ⟨s, 0, none⟩ (.slice A2 n2 c2)).setCell ⟨s, 1, none⟩ (.slice B2 m2 e2)) s 29 [.slice A2 n2 c2, .slice B2 m2 e2]) := Lib.hid ((OD.out.set_ 0 (.slice A2 n2 c2)).set_ 1 (.slice B2 m2 e2))
        replace OR : Hid (Own ((w5.setCell ⟨s, 0, none⟩ (.slice A2 n2 c2)).setCell ⟨s, 1, none⟩ (.slice B2 m2 e2)) (s + 1) 29 [.slice none 0 0, .slice none 0 0]) := Lib.hid ((OR.out.far (p := ⟨s, 0, none⟩) (by first | omega | (simp; omega) | simp) (.slice A2 n2 c2)).far (p := ⟨s, 1, none⟩) (by first | omega | (simp; omega) | simp) (.slice B2 m2 e2))
        replace HD2 := Lib.hid ((HD2.out.put (p := ⟨s, 0, none⟩) (by simp) (.slice A2 n2 c2)).put (p := ⟨s, 1, none⟩) (by simp) (.slice B2 m2 e2))
        replace K := ((K.setCell (p := ⟨s, 0, none⟩) (by first | exact Nat.le_refl _ | (simp only []; omega) | simp) (.slice A2 n2 c2)).setCell (p := ⟨s, 1, none⟩) (by first | exact Nat.le_refl _ | (simp only []; omega) | simp) (.slice B2 m2 e2))
        generalize ((w5.setCell ⟨s, 0, none⟩ (.slice A2 n2 c2)).setCell ⟨s, 1, none⟩ (.slice B2 m2 e2)) = w6 at *
        refine hKK.out _ _ ?_
        clear hKK KK
        (try simp only [Act.put, List.setIfInBounds_toArray, List.set_cons_zero, List.set_cons_succ])
        refine wpAnyZ_done (by kernel_rfl) ?_ _
        clear CD0 CD1 CR0 CR1 ODr ORr HDr Kr zr hHeld kr
        go_wp2
        go_roundw
        case rel => exact ⟨k + 1, by omega, by go_num, A2, n2, c2, B2, m2, e2, OD, OR, by rw [HDN.out]; exact HD2, K⟩
        case measure => simp [intOf]; omega
      | false =>
        have HRN : Hid (dn = if fitsB ⟨xa, xd⟩ dk.sec.length = true then ⟨dk.sec, dk.cache ++ [⟨xa, xd⟩]⟩ else dk) := by show _ = _; rw [HRS.out]; exact step_put HRR.out
        clear HRS
        have hb2 : b < wr.heap.size := Nat.lt_of_lt_of_le hb K.size
        have p2 := (K.cell (p := ⟨b, o + k * 3 + 1, none⟩) hb).trans HC2.out
        have p3 := (K.cell (p := ⟨b, o + k * 3 + 2, none⟩) hb).trans HC3.out
        rcases Bool.eq_false_or_eq_true (fitsB ⟨xa, xd⟩ dk.sec.length) with hf | hf
        · have HPR : Hid (rputR dk ⟨xa, xd⟩ = (dn, true)) := by show _ = _; unfold rputR; rw [HRR.out, hf, HRN.out, if_pos hf]; rfl
          clear hf HRN
          have zs0 := OD.out.lt
          go_upto_region 7 with fail
          have CD0 : ∀ W', Kept wr W' → W'.cell? ⟨s, 0, none⟩ = some (.slice A1 n1 c1) := fun W' hk => (OD.out.kept hk).cell? 0
          have CD1 : ∀ W', Kept wr W' → W'.cell? ⟨s, 1, none⟩ = some (.slice B1 m1 e1) := fun W' hk => (OD.out.kept hk).cell? 1
          have CR0 : ∀ W', Kept wr W' → W'.cell? ⟨(s + 1), 0, none⟩ = some (.slice none 0 0) := fun W' hk => (OR.out.kept hk).cell? 0
          have CR1 : ∀ W', Kept wr W' → W'.cell? ⟨(s + 1), 1, none⟩ = some (.slice none 0 0) := fun W' hk => (OR.out.kept hk).cell? 1
          have CX1 : ∀ W', Kept wr W' → W'.cell? ⟨b, o + k * 3 + 1, none⟩ = some (.int .i64 xa) := fun W' hk => (hk.cell (p := ⟨b, o + k * 3 + 1, none⟩) hb2).trans p2
          have CX2 : ∀ W', Kept wr W' → W'.cell? ⟨b, o + k * 3 + 2, none⟩ = some (.string xd) := fun W' hk => (hk.cell (p := ⟨b, o + k * 3 + 2, none⟩) hb2).trans p3
          refine wp_region_Z (S := fun W' => Kept wr W') (Z := []) (by kernel_rfl) ((Kept.refl wr).drew) (fun hHeld => ?_)
          have kr := (Kept.refl wr).drew
          have Kr := K
          have zr := K.size
          have ODr := OD
          have ORr := OR
          have HDr := HD
          replace OD := Lib.hid (ODr.out.kept kr)
          replace OR := Lib.hid (ORr.out.kept kr)
          replace HD := Lib.hid (HDr.out.go kr (Ext.refl _ _))
          replace K := Kr.trans kr
          generalize wr.drew = w2 at *
          refine wpAnyZ_take (i := 0) (oi := { dst := some 35, op := Op.load 29 (Operand.tmp 3), type := 29, pos := "ref.go:113", after := #[], guard := none }) (v := ?_) rfl (by kernel_rfl) (fun _ _ _ h => h) (Or.inl ⟨by rfl, ?_⟩) (by assumption) ?_
          rotate_left
          · (intro wz hSw; (try dsimp only at hSw); go_simp; (try with_reducible rfl))
          (try simp only [Act.put, List.setIfInBounds_toArray, List.set_cons_zero, List.set_cons_succ])
          refine wpAnyZ_take (i := 1) (oi := { dst := some 36, op := Op.move (Operand.tmp 1), type := 45, pos := "ref.go:113", after := #[], guard := none }) (v := ?_) rfl (by kernel_rfl) (fun _ _ _ h => h) (Or.inl ⟨by rfl, ?_⟩) (by assumption) ?_
          rotate_left
          · (intro wz hSw; (try dsimp only at hSw); go_simp; (try with_reducible rfl))
          (try simp only [Act.put, List.setIfInBounds_toArray, List.set_cons_zero, List.set_cons_succ])
          refine wpAnyZ_take (i := 2) (oi := { dst := some 37, op := Op.move (Operand.tmp 7), type := 3, pos := "ref.go:113", after := #[], guard := none }) (v := ?_) rfl (by kernel_rfl) (fun _ _ _ h => h) (Or.inl ⟨by rfl, ?_⟩) (by assumption) ?_
          rotate_left
          · (intro wz hSw; (try dsimp only at hSw); go_simp; (try with_reducible rfl))
          (try simp only [Act.put, List.setIfInBounds_toArray, List.set_cons_zero, List.set_cons_succ])
          refine wpAnyZ_take (i := 3) (oi := { dst := some 38, op := Op.indexAddr 45 (Operand.tmp 36) (Operand.tmp 37), type := 0, pos := "ref.go:113", after := #[{ on := 1, ground := Ground.data }, { on := 2, ground := Ground.data }], guard := none }) (v := ?_) rfl (by kernel_rfl) (fun _ _ _ h => h) (Or.inl ⟨by rfl, ?_⟩) (by assumption) ?_
          rotate_left
          · (intro wz hSw; (try dsimp only at hSw); go_simp; (try with_reducible rfl))
          (try simp only [Act.put, List.setIfInBounds_toArray, List.set_cons_zero, List.set_cons_succ])
          refine wpAnyZ_take (i := 4) (oi := { dst := some 39, op := Op.fieldAddr 105 (Operand.tmp 38) 1, type := 0, pos := "ref.go:113", after := #[{ on := 3, ground := Ground.data }], guard := none }) (v := ?_) rfl (by kernel_rfl) (fun _ _ _ h => h) (Or.inl ⟨by rfl, ?_⟩) (by assumption) ?_
          rotate_left
          · (intro wz hSw; (try dsimp only at hSw); go_simp; (try with_reducible rfl))
          (try simp only [Act.put, List.setIfInBounds_toArray, List.set_cons_zero, List.set_cons_succ])
          refine wpAnyZ_take (i := 5) (oi := { dst := some 40, op := Op.load 82 (Operand.tmp 39), type := 82, pos := "ref.go:113", after := #[{ on := 4, ground := Ground.data }], guard := none }) (v := ?_) rfl (by kernel_rfl) (fun _ _ _ h => h) (Or.inl ⟨by rfl, ?_⟩) (by assumption) ?_
          rotate_left
          · (intro wz hSw; (try dsimp only at hSw); go_simp; (try with_reducible rfl))
          (try simp only [Act.put, List.setIfInBounds_toArray, List.set_cons_zero, List.set_cons_succ])
          refine wpAnyZ_ready (rs := [6, 10]) (by kernel_rfl) (by simp) ?_
          refine AllReadyZ.cons (o := { dst := some 41, op := Op.call { callee := Callee.value (Operand.func 62), args := #[Operand.tmp 35, Operand.tmp 40], argTypes := #[29, 82] }, type := 108, pos := "ref.go:113", after := #[{ on := 0, ground := Ground.data }, { on := 5, ground := Ground.data }], guard := none }) rfl (fun KK hKK => ?_) ?_
          · skip
            go_simp
            refine (rput_any [s, s + 1] dk ⟨xa, xd⟩ _ w2 HD.out (Old.cons OD.out.lt (Old.cons OR.out.lt (fun _ h => by cases h))) (by omega)).mono ?_
            rintro e w3 ⟨s2, c2, rfl, hd2, hk⟩
            clear hHeld
            replace kr := kr.trans hk
            replace OD := Lib.hid (ODr.out.kept kr)
            replace OR := Lib.hid (ORr.out.kept kr)
            replace HD := Lib.hid (HDr.out.go kr (Ext.refl _ _))
            replace K := Kr.trans kr
            rw [HPR.out] at hd2 ⊢
            dsimp only at hd2 ⊢
            obtain ⟨A2, c2, B2, e2, rfl, rfl⟩ := hd2.form
            have HD2 := Lib.hid hd2
            clear hd2 hk
            generalize hn2 : dn.sec.length = n2 at *
            generalize hm2 : dn.cache.length = m2 at *
            clear hn2 hm2
            go_simp
            refine hKK.out _ _ ?_ (fun hHeld => ?_)
            · exact kr
            clear hKK KK
            (try simp only [Act.put, List.setIfInBounds_toArray, List.set_cons_zero, List.set_cons_succ])
            refine wpAnyZ_take (i := 7) (oi := { dst := some 34, op := Op.move (Operand.tmp 41), type := 108, pos := "ref.go:113", after := #[{ on := 6, ground := Ground.data }], guard := none }) (v := ?_) rfl (by kernel_rfl) (fun _ _ _ h => h) (Or.inl ⟨by rfl, ?_⟩) (by assumption) ?_
            rotate_left
            · (intro wz hSw; (try dsimp only at hSw); go_simp; (try with_reducible rfl))
            (try simp only [Act.put, List.setIfInBounds_toArray, List.set_cons_zero, List.set_cons_succ])
            refine wpAnyZ_take (i := 8) (oi := { dst := some 42, op := Op.extract (Operand.tmp 34) 0, type := 29, pos := "ref.go:113", after := #[{ on := 7, ground := Ground.data }], guard := none }) (v := ?_) rfl (by kernel_rfl) (fun _ _ _ h => h) (Or.inl ⟨by rfl, ?_⟩) (by assumption) ?_
            rotate_left
            · (intro wz hSw; (try dsimp only at hSw); go_simp; (try with_reducible rfl))
            (try simp only [Act.put, List.setIfInBounds_toArray, List.set_cons_zero, List.set_cons_succ])
            refine wpAnyZ_take (i := 9) (oi := { dst := some 43, op := Op.extract (Operand.tmp 34) 1, type := 4, pos := "ref.go:113", after := #[{ on := 7, ground := Ground.data }, { on := 11, ground := Ground.gcOnly Departure.lateStores }], guard := none }) (v := ?_) rfl (by kernel_rfl) (fun _ _ _ h => h) (Or.inl ⟨by rfl, ?_⟩) (by assumption) ?_
            rotate_left
            · (intro wz hSw; (try dsimp only at hSw); go_simp; (try with_reducible rfl))
            (try simp only [Act.put, List.setIfInBounds_toArray, List.set_cons_zero, List.set_cons_succ])
            refine wpAnyZ_ready (rs := [10]) (by kernel_rfl) (by simp) ?_
            refine AllReadyZ.cons (o := { dst := some 8, op := Op.alloc 29, type := 0, pos := "ref.go:113", after := #[], guard := none }) rfl (fun KK hKK => ?_) AllReadyZ.nil
            go_simp
            have hbY : wr.heap.size ≤ w3.heap.size := kr.size
            replace kr := kr.alloc (.cells #[.slice none 0 0, .slice none 0 0] 29)
            clear hHeld
            have OY := Lib.hid (Own.new w3 29 [.slice none 0 0, .slice none 0 0])
            replace HD2 := Lib.hid (HD2.out.go ((Kept.refl w3).alloc (.cells #[.slice none 0 0, .slice none 0 0] 29)) (Ext.cons (k := w3.heap.size) (Nat.le_refl _) (Ext.refl _ _)))
            replace OD := Lib.hid (ODr.out.kept kr)
            replace OR := Lib.hid (ORr.out.kept kr)
            replace HD := Lib.hid (HDr.out.go kr (Ext.refl _ _))
            replace K := Kr.trans kr
            generalize (w3.alloc (.cells #[.slice none 0 0, .slice none 0 0] 29)) = w4 at *
            generalize w3.heap.size = bY at *
            refine hKK.out _ _ ?_ (fun hHeld => ?_)
            · exact kr
            clear hKK KK
            (try simp only [Act.put, List.setIfInBounds_toArray, List.set_cons_zero, List.set_cons_succ])
            refine wpAnyZ_ready (rs := [11]) (by kernel_rfl) (by simp) ?_
            refine AllReadyZ.cons (o := { dst := none, op := Op.store 29 (Operand.tmp 8) (Operand.tmp 42), type := 0, pos := "ref.go:113", after := #[{ on := 10, ground := Ground.data }, { on := 8, ground := Ground.data }, { on := 6, ground := Ground.chain }, { on := 0, ground := Ground.phase }, { on := 1, ground := Ground.phase }, { on := 2, ground := Ground.phase }, { on := 3, ground := Ground.phase }, { on := 4, ground := Ground.phase }, { on := 5, ground := Ground.phase }, { on := 6, ground := Ground.phase }, { on := 7, ground := Ground.phase }, { on := 8, ground := Ground.phase }, { on := 9, ground := Ground.textOnly Departure.lateStores }, { on := 10, ground := Ground.phase }], guard := none }) rfl (fun KK hKK => ?_) AllReadyZ.nil
            obtain ⟨y0, y1, fy0, fy1⟩ := OY.out.two
            have zy := OY.out.lt
            go_simp
            clear y0 y1 fy0 fy1 zy hHeld
            replace OY : Hid (Own ((w4.setCell ⟨bY, 0, none⟩ (.slice A2 n2 c2)).setCell ⟨bY, 1, none⟩ (.slice B2 m2 e2)) bY 29 [.slice A2 n2 c2, .slice B2 m2 e2]) := Lib.hid ((OY.out.set_ 0 (.slice A2 n2 c2)).set_ 1 (.slice B2 m2 e2))
            replace HD2 := Lib.hid ((HD2.out.put (p := ⟨bY, 0, none⟩) (by simp) (.slice A2 n2 c2)).put (p := ⟨bY, 1, none⟩) (by simp) (.slice B2 m2 e2))
            replace kr := (kr.setCell (p := ⟨bY, 0, none⟩) hbY (.slice A2 n2 c2)).setCell (p := ⟨bY, 1, none⟩) hbY (.slice B2 m2 e2)
            replace OD := Lib.hid (ODr.out.kept kr)
            replace OR := Lib.hid (ORr.out.kept kr)
            replace HD := Lib.hid (HDr.out.go kr (Ext.refl _ _))
            replace K := Kr.trans kr
            generalize ((w4.setCell ⟨bY, 0, none⟩ (.slice A2 n2 c2)).setCell ⟨bY, 1, none⟩ (.slice B2 m2 e2)) = w5 at *
            refine hKK.out _ _ ?_ (fun hHeld => ?_)
            · exact kr
            clear hKK KK
            (try simp only [Act.put, List.setIfInBounds_toArray, List.set_cons_zero, List.set_cons_succ])
            refine wpAnyZ_take (i := 12) (oi := { dst := some 9, op := Op.assign (Operand.tmp 43), type := 4, pos := "ref.go:113", after := #[{ on := 9, ground := Ground.data }, { on := 11, ground := Ground.chain }, { on := 0, ground := Ground.phase }, { on := 1, ground := Ground.phase }, { on := 2, ground := Ground.phase }, { on := 3, ground := Ground.phase }, { on := 4, ground := Ground.phase }, { on := 5, ground := Ground.phase }, { on := 6, ground := Ground.phase }, { on := 7, ground := Ground.phase }, { on := 8, ground := Ground.phase }, { on := 9, ground := Ground.phase }, { on := 10, ground := Ground.phase }, { on := 11, ground := Ground.phase }], guard := none }) (v := ?_) rfl (by kernel_rfl) (fun _ _ _ h => h) (Or.inl ⟨by rfl, ?_⟩) (by assumption) ?_
            rotate_left
            · (intro wz hSw; (try dsimp only at hSw); go_simp; (try with_reducible rfl))
            (try simp only [Act.put, List.setIfInBounds_toArray, List.set_cons_zero, List.set_cons_succ])
            refine wpAnyZ_done (by kernel_rfl) ?_ _
            clear CD0 CD1 CR0 CR1 CX1 CX2 ODr ORr HDr Kr zr hHeld kr
            obtain ⟨y0, y1, fy0, fy1⟩ := OY.out.two
            have zy := OY.out.lt
            have zs := OD.out.lt
            have hsb : s < bY := Nat.lt_of_lt_of_le zs0 hbY
            obtain ⟨cD0, cD1, fD0, fD1⟩ := OD.out.two
            go_wp2
            clear y0 y1 fy0 fy1 zy
            clear cD0 cD1 fD0 fD1
            go_roundw
            case rel => exact ⟨k + 1, by omega, by go_num, A2, n2, c2, B2, m2, e2, (OD.out.set_ 0 _).set_ 1 _, (OR.out.far (p := ⟨s, 0, none⟩) (by simp) _).far (p := ⟨s, 1, none⟩) (by simp) _, by rw [HDN.out]; exact ((HD2.out.weak (fun j hj => List.mem_cons_of_mem _ hj)).put (p := ⟨s, 0, none⟩) (by simp) _).put (p := ⟨s, 1, none⟩) (by simp) _, (K.setCell (p := ⟨s, 0, none⟩) (by have := HS.out; show w.heap.size ≤ s; omega) _).setCell (p := ⟨s, 1, none⟩) (by have := HS.out; show w.heap.size ≤ s; omega) _⟩
            case measure => simp [intOf]; omega
          refine AllReadyZ.cons (o := { dst := some 8, op := Op.alloc 29, type := 0, pos := "ref.go:113", after := #[], guard := none }) rfl (fun KK hKK => ?_) AllReadyZ.nil
          go_simp
          have hbY : wr.heap.size ≤ w2.heap.size := kr.size
          replace kr := kr.alloc (.cells #[.slice none 0 0, .slice none 0 0] 29)
          clear hHeld
          have OY := Lib.hid (Own.new w2 29 [.slice none 0 0, .slice none 0 0])
          replace OD := Lib.hid (ODr.out.kept kr)
          replace OR := Lib.hid (ORr.out.kept kr)
          replace HD := Lib.hid (HDr.out.go kr (Ext.refl _ _))
          replace K := Kr.trans kr
          generalize (w2.alloc (.cells #[.slice none 0 0, .slice none 0 0] 29)) = w3 at *
          generalize w2.heap.size = bY at *
          refine hKK.out _ _ ?_ (fun hHeld => ?_)
          · exact kr
          clear hKK KK
          (try simp only [Act.put, List.setIfInBounds_toArray, List.set_cons_zero, List.set_cons_succ])
          refine wpAnyZ_ready (rs := [6]) (by kernel_rfl) (by simp) ?_
          refine AllReadyZ.cons (o := { dst := some 41, op := Op.call { callee := Callee.value (Operand.func 62), args := #[Operand.tmp 35, Operand.tmp 40], argTypes := #[29, 82] }, type := 108, pos := "ref.go:113", after := #[{ on := 0, ground := Ground.data }, { on := 5, ground := Ground.data }], guard := none }) rfl (fun KK hKK => ?_) AllReadyZ.nil
          go_simp
          refine (rput_any (bY :: [s, s + 1]) dk ⟨xa, xd⟩ _ w3 (HDr.out.go kr (Ext.cons (k := bY) hbY (Ext.refl _ _))) (Old.cons OY.out.lt (Old.cons OD.out.lt (Old.cons OR.out.lt (fun _ h => by cases h)))) (by omega)).mono ?_
          rintro e w4 ⟨s2, c2, rfl, hd2, hk⟩
          clear hHeld
          replace OY := Lib.hid (OY.out.kept hk)
          replace kr := kr.trans hk
          replace OD := Lib.hid (ODr.out.kept kr)
          replace OR := Lib.hid (ORr.out.kept kr)
          replace HD := Lib.hid (HDr.out.go kr (Ext.refl _ _))
          replace K := Kr.trans kr
          rw [HPR.out] at hd2 ⊢
          dsimp only at hd2 ⊢
          obtain ⟨A2, c2, B2, e2, rfl, rfl⟩ := hd2.form
          have HD2 := Lib.hid hd2
          clear hd2 hk
          generalize hn2 : dn.sec.length = n2 at *
          generalize hm2 : dn.cache.length = m2 at *
          clear hn2 hm2
          go_simp
          refine hKK.out _ _ ?_ (fun hHeld => ?_)
          · exact kr
          clear hKK KK
          (try simp only [Act.put, List.setIfInBounds_toArray, List.set_cons_zero, List.set_cons_succ])
          refine wpAnyZ_take (i := 7) (oi := { dst := some 34, op := Op.move (Operand.tmp 41), type := 108, pos := "ref.go:113", after := #[{ on := 6, ground := Ground.data }], guard := none }) (v := ?_) rfl (by kernel_rfl) (fun _ _ _ h => h) (Or.inl ⟨by rfl, ?_⟩) (by assumption) ?_
          rotate_left
          · (intro wz hSw; (try dsimp only at hSw); go_simp; (try with_reducible rfl))
          (try simp only [Act.put, List.setIfInBounds_toArray, List.set_cons_zero, List.set_cons_succ])
          refine wpAnyZ_take (i := 8) (oi := { dst := some 42, op := Op.extract (Operand.tmp 34) 0, type := 29, pos := "ref.go:113", after := #[{ on := 7, ground := Ground.data }], guard := none }) (v := ?_) rfl (by kernel_rfl) (fun _ _ _ h => h) (Or.inl ⟨by rfl, ?_⟩) (by assumption) ?_
          rotate_left
          · (intro wz hSw; (try dsimp only at hSw); go_simp; (try with_reducible rfl))
          (try simp only [Act.put, List.setIfInBounds_toArray, List.set_cons_zero, List.set_cons_succ])
          refine wpAnyZ_take (i := 9) (oi := { dst := some 43, op := Op.extract (Operand.tmp 34) 1, type := 4, pos := "ref.go:113", after := #[{ on := 7, ground := Ground.data }, { on := 11, ground := Ground.gcOnly Departure.lateStores }], guard := none }) (v := ?_) rfl (by kernel_rfl) (fun _ _ _ h => h) (Or.inl ⟨by rfl, ?_⟩) (by assumption) ?_
          rotate_left
          · (intro wz hSw; (try dsimp only at hSw); go_simp; (try with_reducible rfl))
          (try simp only [Act.put, List.setIfInBounds_toArray, List.set_cons_zero, List.set_cons_succ])
          refine wpAnyZ_ready (rs := [11]) (by kernel_rfl) (by simp) ?_
          refine AllReadyZ.cons (o := { dst := none, op := Op.store 29 (Operand.tmp 8) (Operand.tmp 42), type := 0, pos := "ref.go:113", after := #[{ on := 10, ground := Ground.data }, { on := 8, ground := Ground.data }, { on := 6, ground := Ground.chain }, { on := 0, ground := Ground.phase }, { on := 1, ground := Ground.phase }, { on := 2, ground := Ground.phase }, { on := 3, ground := Ground.phase }, { on := 4, ground := Ground.phase }, { on := 5, ground := Ground.phase }, { on := 6, ground := Ground.phase }, { on := 7, ground := Ground.phase }, { on := 8, ground := Ground.phase }, { on := 9, ground := Ground.textOnly Departure.lateStores }, { on := 10, ground := Ground.phase }], guard := none }) rfl (fun KK hKK => ?_) AllReadyZ.nil
          obtain ⟨y0, y1, fy0, fy1⟩ := OY.out.two
          have zy := OY.out.lt
          go_simp
          clear y0 y1 fy0 fy1 zy hHeld
          replace OY : Hid (Own ((w4.setCell ⟨bY, 0, none⟩ (.slice A2 n2 c2)).setCell ⟨bY, 1, none⟩ (.slice B2 m2 e2)) bY 29 [.slice A2 n2 c2, .slice B2 m2 e2]) := Lib.hid ((OY.out.set_ 0 (.slice A2 n2 c2)).set_ 1 (.slice B2 m2 e2))
          replace HD2 := Lib.hid ((HD2.out.put (p := ⟨bY, 0, none⟩) (by simp) (.slice A2 n2 c2)).put (p := ⟨bY, 1, none⟩) (by simp) (.slice B2 m2 e2))
          replace kr := (kr.setCell (p := ⟨bY, 0, none⟩) hbY (.slice A2 n2 c2)).setCell (p := ⟨bY, 1, none⟩) hbY (.slice B2 m2 e2)
          replace OD := Lib.hid (ODr.out.kept kr)
          replace OR := Lib.hid (ORr.out.kept kr)
          replace HD := Lib.hid (HDr.out.go kr (Ext.refl _ _))
          replace K := Kr.trans kr
          generalize ((w4.setCell ⟨bY, 0, none⟩ (.slice A2 n2 c2)).setCell ⟨bY, 1, none⟩ (.slice B2 m2 e2)) = w5 at *
          refine hKK.out _ _ ?_ (fun hHeld => ?_)
          · exact kr
          clear hKK KK
          (try simp only [Act.put, List.setIfInBounds_toArray, List.set_cons_zero, List.set_cons_succ])
          refine wpAnyZ_take (i := 12) (oi := { dst := some 9, op := Op.assign (Operand.tmp 43), type := 4, pos := "ref.go:113", after := #[{ on := 9, ground := Ground.data }, { on := 11, ground := Ground.chain }, { on := 0, ground := Ground.phase }, { on := 1, ground := Ground.phase }, { on := 2, ground := Ground.phase }, { on := 3, ground := Ground.phase }, { on := 4, ground := Ground.phase }, { on := 5, ground := Ground.phase }, { on := 6, ground := Ground.phase }, { on := 7, ground := Ground.phase }, { on := 8, ground := Ground.phase }, { on := 9, ground := Ground.phase }, { on := 10, ground := Ground.phase }, { on := 11, ground := Ground.phase }], guard := none }) (v := ?_) rfl (by kernel_rfl) (fun _ _ _ h => h) (Or.inl ⟨by rfl, ?_⟩) (by assumption) ?_
          rotate_left
          · (intro wz hSw; (try dsimp only at hSw); go_simp; (try with_reducible rfl))
          (try simp only [Act.put, List.setIfInBounds_toArray, List.set_cons_zero, List.set_cons_succ])
          refine wpAnyZ_done (by kernel_rfl) ?_ _
          clear CD0 CD1 CR0 CR1 CX1 CX2 ODr ORr HDr Kr zr hHeld kr
          obtain ⟨y0, y1, fy0, fy1⟩ := OY.out.two
          have zy := OY.out.lt
          have zs := OD.out.lt
          have hsb : s < bY := Nat.lt_of_lt_of_le zs0 hbY
          obtain ⟨cD0, cD1, fD0, fD1⟩ := OD.out.two
          go_wp2
          clear y0 y1 fy0 fy1 zy
          clear cD0 cD1 fD0 fD1
          go_roundw
          case rel => exact ⟨k + 1, by omega, by go_num, A2, n2, c2, B2, m2, e2, (OD.out.set_ 0 _).set_ 1 _, (OR.out.far (p := ⟨s, 0, none⟩) (by simp) _).far (p := ⟨s, 1, none⟩) (by simp) _, by rw [HDN.out]; exact ((HD2.out.weak (fun j hj => List.mem_cons_of_mem _ hj)).put (p := ⟨s, 0, none⟩) (by simp) _).put (p := ⟨s, 1, none⟩) (by simp) _, (K.setCell (p := ⟨s, 0, none⟩) (by have := HS.out; show w.heap.size ≤ s; omega) _).setCell (p := ⟨s, 1, none⟩) (by have := HS.out; show w.heap.size ≤ s; omega) _⟩
          case measure => simp [intOf]; omega
        · have HPR : Hid (rputR dk ⟨xa, xd⟩ = (⟨[], []⟩, false)) := by show _ = _; unfold rputR; rw [HRR.out, hf]; rfl
          have HDE : Hid (dn = dk) := by show _ = _; rw [HRN.out, if_neg (by rw [hf]; simp)]
          clear hf HRN
          have zs0 := OD.out.lt
          go_upto_region 7 with fail
          have CD0 : ∀ W', Kept wr W' → W'.cell? ⟨s, 0, none⟩ = some (.slice A1 n1 c1) := fun W' hk => (OD.out.kept hk).cell? 0
          have CD1 : ∀ W', Kept wr W' → W'.cell? ⟨s, 1, none⟩ = some (.slice B1 m1 e1) := fun W' hk => (OD.out.kept hk).cell? 1
          have CR0 : ∀ W', Kept wr W' → W'.cell? ⟨(s + 1), 0, none⟩ = some (.slice none 0 0) := fun W' hk => (OR.out.kept hk).cell? 0
          have CR1 : ∀ W', Kept wr W' → W'.cell? ⟨(s + 1), 1, none⟩ = some (.slice none 0 0) := fun W' hk => (OR.out.kept hk).cell? 1
          have CX1 : ∀ W', Kept wr W' → W'.cell? ⟨b, o + k * 3 + 1, none⟩ = some (.int .i64 xa) := fun W' hk => (hk.cell (p := ⟨b, o + k * 3 + 1, none⟩) hb2).trans p2
          have CX2 : ∀ W', Kept wr W' → W'.cell? ⟨b, o + k * 3 + 2, none⟩ = some (.string xd) := fun W' hk => (hk.cell (p := ⟨b, o + k * 3 + 2, none⟩) hb2).trans p3
          refine wp_region_Z (S := fun W' => Kept wr W') (Z := []) (by kernel_rfl) ((Kept.refl wr).drew) (fun hHeld => ?_)
          have kr := (Kept.refl wr).drew
          have Kr := K
          have zr := K.size
          have ODr := OD
          have ORr := OR
          have HDr := HD
          replace OD := Lib.hid (ODr.out.kept kr)
          replace OR := Lib.hid (ORr.out.kept kr)
          replace HD := Lib.hid (HDr.out.go kr (Ext.refl _ _))
          replace K := Kr.trans kr
          generalize wr.drew = w2 at *
          refine wpAnyZ_take (i := 0) (oi := { dst := some 35, op := Op.load 29 (Operand.tmp 3), type := 29, pos := "ref.go:113", after := #[], guard := none }) (v := ?_) rfl (by kernel_rfl) (fun _ _ _ h => h) (Or.inl ⟨by rfl, ?_⟩) (by assumption) ?_
          rotate_left
          · (intro wz hSw; (try dsimp only at hSw); go_simp; (try with_reducible rfl))
          (try simp only [Act.put, List.setIfInBounds_toArray, List.set_cons_zero, List.set_cons_succ])
          refine wpAnyZ_take (i := 1) (oi := { dst := some 36, op := Op.move (Operand.tmp 1), type := 45, pos := "ref.go:113", after := #[], guard := none }) (v := ?_) rfl (by kernel_rfl) (fun _ _ _ h => h) (Or.inl ⟨by rfl, ?_⟩) (by assumption) ?_
          rotate_left
          · (intro wz hSw; (try dsimp only at hSw); go_simp; (try with_reducible rfl))
          (try simp only [Act.put, List.setIfInBounds_toArray, List.set_cons_zero, List.set_cons_succ])
          refine wpAnyZ_take (i := 2) (oi := { dst := some 37, op := Op.move (Operand.tmp 7), type := 3, pos := "ref.go:113", after := #[], guard := none }) (v := ?_) rfl (by kernel_rfl) (fun _ _ _ h => h) (Or.inl ⟨by rfl, ?_⟩) (by assumption) ?_
          rotate_left
          · (intro wz hSw; (try dsimp only at hSw); go_simp; (try with_reducible rfl))
          (try simp only [Act.put, List.setIfInBounds_toArray, List.set_cons_zero, List.set_cons_succ])
          refine wpAnyZ_take (i := 3) (oi := { dst := some 38, op := Op.indexAddr 45 (Operand.tmp 36) (Operand.tmp 37), type := 0, pos := "ref.go:113", after := #[{ on := 1, ground := Ground.data }, { on := 2, ground := Ground.data }], guard := none }) (v := ?_) rfl (by kernel_rfl) (fun _ _ _ h => h) (Or.inl ⟨by rfl, ?_⟩) (by assumption) ?_
          rotate_left
          · (intro wz hSw; (try dsimp only at hSw); go_simp; (try with_reducible rfl))
          (try simp only [Act.put, List.setIfInBounds_toArray, List.set_cons_zero, List.set_cons_succ])
          refine wpAnyZ_take (i := 4) (oi := { dst := some 39, op := Op.fieldAddr 105 (Operand.tmp 38) 1, type := 0, pos := "ref.go:113", after := #[{ on := 3, ground := Ground.data }], guard := none }) (v := ?_) rfl (by kernel_rfl) (fun _ _ _ h => h) (Or.inl ⟨by rfl, ?_⟩) (by assumption) ?_
          rotate_left
          · (intro wz hSw; (try dsimp only at hSw); go_simp; (try with_reducible rfl))
          (try simp only [Act.put, List.setIfInBounds_toArray, List.set_cons_zero, List.set_cons_succ])
          refine wpAnyZ_take (i := 5) (oi := { dst := some 40, op := Op.load 82 (Operand.tmp 39), type := 82, pos := "ref.go:113", after := #[{ on := 4, ground := Ground.data }], guard := none }) (v := ?_) rfl (by kernel_rfl) (fun _ _ _ h => h) (Or.inl ⟨by rfl, ?_⟩) (by assumption) ?_
          rotate_left
          · (intro wz hSw; (try dsimp only at hSw); go_simp; (try with_reducible rfl))
          (try simp only [Act.put, List.setIfInBounds_toArray, List.set_cons_zero, List.set_cons_succ])
          refine wpAnyZ_ready (rs := [6, 10]) (by kernel_rfl) (by simp) ?_
          refine AllReadyZ.cons (o := { dst := some 41, op := Op.call { callee := Callee.value (Operand.func 62), args := #[Operand.tmp 35, Operand.tmp 40], argTypes := #[29, 82] }, type := 108, pos := "ref.go:113", after := #[{ on := 0, ground := Ground.data }, { on := 5, ground := Ground.data }], guard := none }) rfl (fun KK hKK => ?_) ?_
          · skip
            go_simp
            refine (rput_any [s, s + 1] dk ⟨xa, xd⟩ _ w2 HD.out (Old.cons OD.out.lt (Old.cons OR.out.lt (fun _ h => by cases h))) (by omega)).mono ?_
            rintro e w3 ⟨s2, c2, rfl, hd2, hk⟩
            clear hHeld
            replace kr := kr.trans hk
            replace OD := Lib.hid (ODr.out.kept kr)
            replace OR := Lib.hid (ORr.out.kept kr)
            replace HD := Lib.hid (HDr.out.go kr (Ext.refl _ _))
            replace K := Kr.trans kr
            rw [HPR.out] at hd2 ⊢
            dsimp only at hd2 ⊢
            obtain ⟨A2, c2, B2, e2, rfl, rfl⟩ := hd2.form
            have HD2 := Lib.hid hd2
            clear hd2 hk
            dsimp only [List.length_nil] at HD2 ⊢
            skip
            go_simp
            refine hKK.out _ _ ?_ (fun hHeld => ?_)
            · exact kr
            clear hKK KK
            (try simp only [Act.put, List.setIfInBounds_toArray, List.set_cons_zero, List.set_cons_succ])
            refine wpAnyZ_take (i := 7) (oi := { dst := some 34, op := Op.move (Operand.tmp 41), type := 108, pos := "ref.go:113", after := #[{ on := 6, ground := Ground.data }], guard := none }) (v := ?_) rfl (by kernel_rfl) (fun _ _ _ h => h) (Or.inl ⟨by rfl, ?_⟩) (by assumption) ?_
            rotate_left
            · (intro wz hSw; (try dsimp only at hSw); go_simp; (try with_reducible rfl))
            (try simp only [Act.put, List.setIfInBounds_toArray, List.set_cons_zero, List.set_cons_succ])
            refine wpAnyZ_take (i := 8) (oi := { dst := some 42, op := Op.extract (Operand.tmp 34) 0, type := 29, pos := "ref.go:113", after := #[{ on := 7, ground := Ground.data }], guard := none }) (v := ?_) rfl (by kernel_rfl) (fun _ _ _ h => h) (Or.inl ⟨by rfl, ?_⟩) (by assumption) ?_
            rotate_left
            · (intro wz hSw; (try dsimp only at hSw); go_simp; (try with_reducible rfl))
            (try simp only [Act.put, List.setIfInBounds_toArray, List.set_cons_zero, List.set_cons_succ])
            refine wpAnyZ_take (i := 9) (oi := { dst := some 43, op := Op.extract (Operand.tmp 34) 1, type := 4, pos := "ref.go:113", after := #[{ on := 7, ground := Ground.data }, { on := 11, ground := Ground.gcOnly Departure.lateStores }], guard := none }) (v := ?_) rfl (by kernel_rfl) (fun _ _ _ h => h) (Or.inl ⟨by rfl, ?_⟩) (by assumption) ?_
            rotate_left
            · (intro wz hSw; (try dsimp only at hSw); go_simp; (try with_reducible rfl))
            (try simp only [Act.put, List.setIfInBounds_toArray, List.set_cons_zero, List.set_cons_succ])
            refine wpAnyZ_ready (rs := [10]) (by kernel_rfl) (by simp) ?_
            refine AllReadyZ.cons (o := { dst := some 8, op := Op.alloc 29, type := 0, pos := "ref.go:113", after := #[], guard := none }) rfl (fun KK hKK => ?_) AllReadyZ.nil
            go_simp
            have hbY : wr.heap.size ≤ w3.heap.size := kr.size
            replace kr := kr.alloc (.cells #[.slice none 0 0, .slice none 0 0] 29)
            clear hHeld
            have OY := Lib.hid (Own.new w3 29 [.slice none 0 0, .slice none 0 0])
            replace HD2 := Lib.hid (HD2.out.go ((Kept.refl w3).alloc (.cells #[.slice none 0 0, .slice none 0 0] 29)) (Ext.cons (k := w3.heap.size) (Nat.le_refl _) (Ext.refl _ _)))
            replace OD := Lib.hid (ODr.out.kept kr)
            replace OR := Lib.hid (ORr.out.kept kr)
            replace HD := Lib.hid (HDr.out.go kr (Ext.refl _ _))
            replace K := Kr.trans kr
            generalize (w3.alloc (.cells #[.slice none 0 0, .slice none 0 0] 29)) = w4 at *
            generalize w3.heap.size = bY at *
            refine hKK.out _ _ ?_ (fun hHeld => ?_)
            · exact kr
            clear hKK KK
            (try simp only [Act.put, List.setIfInBounds_toArray, List.set_cons_zero, List.set_cons_succ])
            refine wpAnyZ_ready (rs := [11]) (by kernel_rfl) (by simp) ?_
            refine AllReadyZ.cons (o := { dst := none, op := Op.store 29 (Operand.tmp 8) (Operand.tmp 42), type := 0, pos := "ref.go:113", after := #[{ on := 10, ground := Ground.data }, { on := 8, ground := Ground.data }, { on := 6, ground := Ground.chain }, { on := 0, ground := Ground.phase }, { on := 1, ground := Ground.phase }, { on := 2, ground := Ground.phase }, { on := 3, ground := Ground.phase }, { on := 4, ground := Ground.phase }, { on := 5, ground := Ground.phase }, { on := 6, ground := Ground.phase }, { on := 7, ground := Ground.phase }, { on := 8, ground := Ground.phase }, { on := 9, ground := Ground.textOnly Departure.lateStores }, { on := 10, ground := Ground.phase }], guard := none }) rfl (fun KK hKK => ?_) AllReadyZ.nil
            obtain ⟨y0, y1, fy0, fy1⟩ := OY.out.two
            have zy := OY.out.lt
            go_simp
            clear y0 y1 fy0 fy1 zy hHeld
            replace OY : Hid (Own ((w4.setCell ⟨bY, 0, none⟩ (.slice A2 0 c2)).setCell ⟨bY, 1, none⟩ (.slice B2 0 e2)) bY 29 [.slice A2 0 c2, .slice B2 0 e2]) := Lib.hid ((OY.out.set_ 0 (.slice A2 0 c2)).set_ 1 (.slice B2 0 e2))
            replace HD2 := Lib.hid ((HD2.out.put (p := ⟨bY, 0, none⟩) (by simp) (.slice A2 0 c2)).put (p := ⟨bY, 1, none⟩) (by simp) (.slice B2 0 e2))
            replace kr := (kr.setCell (p := ⟨bY, 0, none⟩) hbY (.slice A2 0 c2)).setCell (p := ⟨bY, 1, none⟩) hbY (.slice B2 0 e2)
            replace OD := Lib.hid (ODr.out.kept kr)
            replace OR := Lib.hid (ORr.out.kept kr)
            replace HD := Lib.hid (HDr.out.go kr (Ext.refl _ _))
            replace K := Kr.trans kr
            generalize ((w4.setCell ⟨bY, 0, none⟩ (.slice A2 0 c2)).setCell ⟨bY, 1, none⟩ (.slice B2 0 e2)) = w5 at *
            refine hKK.out _ _ ?_ (fun hHeld => ?_)
            · exact kr
            clear hKK KK
            (try simp only [Act.put, List.setIfInBounds_toArray, List.set_cons_zero, List.set_cons_succ])
            refine wpAnyZ_take (i := 12) (oi := { dst := some 9, op := Op.assign (Operand.tmp 43), type := 4, pos := "ref.go:113", after := #[{ on := 9, ground := Ground.data }, { on := 11, ground := Ground.chain }, { on := 0, ground := Ground.phase }, { on := 1, ground := Ground.phase }, { on := 2, ground := Ground.phase }, { on := 3, ground := Ground.phase }, { on := 4, ground := Ground.phase }, { on := 5, ground := Ground.phase }, { on := 6, ground := Ground.phase }, { on := 7, ground := Ground.phase }, { on := 8, ground := Ground.phase }, { on := 9, ground := Ground.phase }, { on := 10, ground := Ground.phase }, { on := 11, ground := Ground.phase }], guard := none }) (v := ?_) rfl (by kernel_rfl) (fun _ _ _ h => h) (Or.inl ⟨by rfl, ?_⟩) (by assumption) ?_
            rotate_left
            · (intro wz hSw; (try dsimp only at hSw); go_simp; (try with_reducible rfl))
            (try simp only [Act.put, List.setIfInBounds_toArray, List.set_cons_zero, List.set_cons_succ])
            refine wpAnyZ_done (by kernel_rfl) ?_ _
            clear CD0 CD1 CR0 CR1 CX1 CX2 ODr ORr HDr Kr zr hHeld kr
            obtain ⟨y0, y1, fy0, fy1⟩ := OY.out.two
            have zy := OY.out.lt
            have zs := OD.out.lt
            have hsb : s < bY := Nat.lt_of_lt_of_le zs0 hbY
            obtain ⟨cD0, cD1, fD0, fD1⟩ := OD.out.two
            go_wp2
            go_roundw
            case rel => exact ⟨k + 1, by omega, by go_num, A1, n1, c1, B1, m1, e1, OD, OR, by rw [HDN.out, HDE.out]; exact HD, K⟩
            case measure => simp [intOf]; omega
          refine AllReadyZ.cons (o := { dst := some 8, op := Op.alloc 29, type := 0, pos := "ref.go:113", after := #[], guard := none }) rfl (fun KK hKK => ?_) AllReadyZ.nil
          go_simp
          have hbY : wr.heap.size ≤ w2.heap.size := kr.size
          replace kr := kr.alloc (.cells #[.slice none 0 0, .slice none 0 0] 29)
          clear hHeld
          have OY := Lib.hid (Own.new w2 29 [.slice none 0 0, .slice none 0 0])
          replace OD := Lib.hid (ODr.out.kept kr)
          replace OR := Lib.hid (ORr.out.kept kr)
          replace HD := Lib.hid (HDr.out.go kr (Ext.refl _ _))
          replace K := Kr.trans kr
          generalize (w2.alloc (.cells #[.slice none 0 0, .slice none 0 0] 29)) = w3 at *
          generalize w2.heap.size = bY at *
          refine hKK.out _ _ ?_ (fun hHeld => ?_)
          · exact kr
          clear hKK KK
          (try simp only [Act.put, List.setIfInBounds_toArray, List.set_cons_zero, List.set_cons_succ])
          refine wpAnyZ_ready (rs := [6]) (by kernel_rfl) (by simp) ?_
          refine AllReadyZ.cons (o := { dst := some 41, op := Op.call { callee := Callee.value (Operand.func 62), args := #[Operand.tmp 35, Operand.tmp 40], argTypes := #[29, 82] }, type := 108, pos := "ref.go:113", after := #[{ on := 0, ground := Ground.data }, { on := 5, ground := Ground.data }], guard := none }) rfl (fun KK hKK => ?_) AllReadyZ.nil
          go_simp
          refine (rput_any (bY :: [s, s + 1]) dk ⟨xa, xd⟩ _ w3 (HDr.out.go kr (Ext.cons (k := bY) hbY (Ext.refl _ _))) (Old.cons OY.out.lt (Old.cons OD.out.lt (Old.cons OR.out.lt (fun _ h => by cases h)))) (by omega)).mono ?_
          rintro e w4 ⟨s2, c2, rfl, hd2, hk⟩
          clear hHeld
          replace OY := Lib.hid (OY.out.kept hk)
          replace kr := kr.trans hk
          replace OD := Lib.hid (ODr.out.kept kr)
          replace OR := Lib.hid (ORr.out.kept kr)
          replace HD := Lib.hid (HDr.out.go kr (Ext.refl _ _))
          replace K := Kr.trans kr
          rw [HPR.out] at hd2 ⊢
          dsimp only at hd2 ⊢
          obtain ⟨A2, c2, B2, e2, rfl, rfl⟩ := hd2.form
          have HD2 := Lib.hid hd2
          clear hd2 hk
          dsimp only [List.length_nil] at HD2 ⊢
          skip
          go_simp
          refine hKK.out _ _ ?_ (fun hHeld => ?_)
          · exact kr
          clear hKK KK
          (try simp only [Act.put, List.setIfInBounds_toArray, List.set_cons_zero, List.set_cons_succ])
          refine wpAnyZ_take (i := 7) (oi := { dst := some 34, op := Op.move (Operand.tmp 41), type := 108, pos := "ref.go:113", after := #[{ on := 6, ground := Ground.data }], guard := none }) (v := ?_) rfl (by kernel_rfl) (fun _ _ _ h => h) (Or.inl ⟨by rfl, ?_⟩) (by assumption) ?_
          rotate_left
          · (intro wz hSw; (try dsimp only at hSw); go_simp; (try with_reducible rfl))
          (try simp only [Act.put, List.setIfInBounds_toArray, List.set_cons_zero, List.set_cons_succ])
          refine wpAnyZ_take (i := 8) (oi := { dst := some 42, op := Op.extract (Operand.tmp 34) 0, type := 29, pos := "ref.go:113", after := #[{ on := 7, ground := Ground.data }], guard := none }) (v := ?_) rfl (by kernel_rfl) (fun _ _ _ h => h) (Or.inl ⟨by rfl, ?_⟩) (by assumption) ?_
          rotate_left
          · (intro wz hSw; (try dsimp only at hSw); go_simp; (try with_reducible rfl))
          (try simp only [Act.put, List.setIfInBounds_toArray, List.set_cons_zero, List.set_cons_succ])
          refine wpAnyZ_take (i := 9) (oi := { dst := some 43, op := Op.extract (Operand.tmp 34) 1, type := 4, pos := "ref.go:113", after := #[{ on := 7, ground := Ground.data }, { on := 11, ground := Ground.gcOnly Departure.lateStores }], guard := none }) (v := ?_) rfl (by kernel_rfl) (fun _ _ _ h => h) (Or.inl ⟨by rfl, ?_⟩) (by assumption) ?_
          rotate_left
          · (intro wz hSw; (try dsimp only at hSw); go_simp; (try with_reducible rfl))
          (try simp only [Act.put, List.setIfInBounds_toArray, List.set_cons_zero, List.set_cons_succ])
          refine wpAnyZ_ready (rs := [11]) (by kernel_rfl) (by simp) ?_
          refine AllReadyZ.cons (o := { dst := none, op := Op.store 29 (Operand.tmp 8) (Operand.tmp 42), type := 0, pos := "ref.go:113", after := #[{ on := 10, ground := Ground.data }, { on := 8, ground := Ground.data }, { on := 6, ground := Ground.chain }, { on := 0, ground := Ground.phase }, { on := 1, ground := Ground.phase }, { on := 2, ground := Ground.phase }, { on := 3, ground := Ground.phase }, { on := 4, ground := Ground.phase }, { on := 5, ground := Ground.phase }, { on := 6, ground := Ground.phase }, { on := 7, ground := Ground.phase }, { on := 8, ground := Ground.phase }, { on := 9, ground := Ground.textOnly Departure.lateStores }, { on := 10, ground := Ground.phase }], guard := none }) rfl (fun KK hKK => ?_) AllReadyZ.nil
          obtain ⟨y0, y1, fy0, fy1⟩ := OY.out.two
          have zy := OY.out.lt
          go_simp
          clear y0 y1 fy0 fy1 zy hHeld
          replace OY : Hid (Own ((w4.setCell ⟨bY, 0, none⟩ (.slice A2 0 c2)).setCell ⟨bY, 1, none⟩ (.slice B2 0 e2)) bY 29 [.slice A2 0 c2, .slice B2 0 e2]) := Lib.hid ((OY.out.set_ 0 (.slice A2 0 c2)).set_ 1 (.slice B2 0 e2))
          replace HD2 := Lib.hid ((HD2.out.put (p := ⟨bY, 0, none⟩) (by simp) (.slice A2 0 c2)).put (p := ⟨bY, 1, none⟩) (by simp) (.slice B2 0 e2))
          replace kr := (kr.setCell (p := ⟨bY, 0, none⟩) hbY (.slice A2 0 c2)).setCell (p := ⟨bY, 1, none⟩) hbY (.slice B2 0 e2)
          replace OD := Lib.hid (ODr.out.kept kr)
          replace OR := Lib.hid (ORr.out.kept kr)
          replace HD := Lib.hid (HDr.out.go kr (Ext.refl _ _))
          replace K := Kr.trans kr
          generalize ((w4.setCell ⟨bY, 0, none⟩ (.slice A2 0 c2)).setCell ⟨bY, 1, none⟩ (.slice B2 0 e2)) = w5 at *
          refine hKK.out _ _ ?_ (fun hHeld => ?_)
          · exact kr
          clear hKK KK
          (try simp only [Act.put, List.setIfInBounds_toArray, List.set_cons_zero, List.set_cons_succ])
          refine wpAnyZ_take (i := 12) (oi := { dst := some 9, op := Op.assign (Operand.tmp 43), type := 4, pos := "ref.go:113", after := #[{ on := 9, ground := Ground.data }, { on := 11, ground := Ground.chain }, { on := 0, ground := Ground.phase }, { on := 1, ground := Ground.phase }, { on := 2, ground := Ground.phase }, { on := 3, ground := Ground.phase }, { on := 4, ground := Ground.phase }, { on := 5, ground := Ground.phase }, { on := 6, ground := Ground.phase }, { on := 7, ground := Ground.phase }, { on := 8, ground := Ground.phase }, { on := 9, ground := Ground.phase }, { on := 10, ground := Ground.phase }, { on := 11, ground := Ground.phase }], guard := none }) (v := ?_) rfl (by kernel_rfl) (fun _ _ _ h => h) (Or.inl ⟨by rfl, ?_⟩) (by assumption) ?_
          rotate_left
          · (intro wz hSw; (try dsimp only at hSw); go_simp; (try with_reducible rfl))
          (try simp only [Act.put, List.setIfInBounds_toArray, List.set_cons_zero, List.set_cons_succ])
          refine wpAnyZ_done (by kernel_rfl) ?_ _
          clear CD0 CD1 CR0 CR1 CX1 CX2 ODr ORr HDr Kr zr hHeld kr
          obtain ⟨y0, y1, fy0, fy1⟩ := OY.out.two
          have zy := OY.out.lt
          have zs := OD.out.lt
          have hsb : s < bY := Nat.lt_of_lt_of_le zs0 hbY
          obtain ⟨cD0, cD1, fD0, fD1⟩ := OD.out.two
          go_wp2
          go_roundw
          case rel => exact ⟨k + 1, by omega, by go_num, A1, n1, c1, B1, m1, e1, OD, OR, by rw [HDN.out, HDE.out]; exact HD, K⟩
          case measure => simp [intOf]; omega
    · obtain rfl : k = l.length := by omega
      have HRA : Hid (runO d l l.length = runO d l l.length) := rfl
      obtain ⟨cD0, cD1, fD0, fD1⟩ := OD.out.two
      obtain ⟨cR0, cR1, fR0, fR1⟩ := OR.out.two
      go_wp2
      clear cD0 cD1 fD0 fD1 cR0 cR1 fR0 fR1
      replace OD : Hid (Own ((wr.setCell ⟨(s + 1), 0, none⟩ (.slice A1 n1 c1)).setCell ⟨(s + 1), 1, none⟩ (.slice B1 m1 e1)) s 29 [.slice A1 n1 c1, .slice B1 m1 e1]) := Lib.hid ((OD.out.far (p := ⟨(s + 1), 0, none⟩) (by first | omega | (simp; omega) | simp) (.slice A1 n1 c1)).far (p := ⟨(s + 1), 1, none⟩) (by first | omega | (simp; omega) | simp) (.slice B1 m1 e1))
      replace OR : Hid (Own ((wr.setCell ⟨(s + 1), 0, none⟩ (.slice A1 n1 c1)).setCell ⟨(s + 1), 1, none⟩ (.slice B1 m1 e1)) (s + 1) 29 [.slice A1 n1 c1, .slice B1 m1 e1]) := Lib.hid ((OR.out.set_ 0 (.slice A1 n1 c1)).set_ 1 (.slice B1 m1 e1))
      replace HD := Lib.hid ((HD.out.put (p := ⟨(s + 1), 0, none⟩) (by simp) (.slice A1 n1 c1)).put (p := ⟨(s + 1), 1, none⟩) (by simp) (.slice B1 m1 e1))
      replace K := ((K.setCell (p := ⟨(s + 1), 0, none⟩) (by first | exact Nat.le_refl _ | (simp only []; omega) | simp) (.slice A1 n1 c1)).setCell (p := ⟨(s + 1), 1, none⟩) (by first | exact Nat.le_refl _ | (simp only []; omega) | simp) (.slice B1 m1 e1))
      generalize ((wr.setCell ⟨(s + 1), 0, none⟩ (.slice A1 n1 c1)).setCell ⟨(s + 1), 1, none⟩ (.slice B1 m1 e1)) = w2 at *
      obtain ⟨cD0, cD1, fD0, fD1⟩ := OD.out.two
      obtain ⟨cR0, cR1, fR0, fR1⟩ := OR.out.two
      refine bodyPost_ret (v := .agg #[.slice A1 n1 c1, .slice B1 m1 e1]) (by simp [results, Tryd.results22, go_sem, cR0, cR1]) rfl ?_
      exact ⟨_, _, rfl, HD.out.weak (fun j hj => by cases hj), K⟩
end Go.Proofs.YtagpimahicgkmaaDoor
