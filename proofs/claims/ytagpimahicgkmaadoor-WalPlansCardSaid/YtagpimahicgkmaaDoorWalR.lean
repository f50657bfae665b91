/- Walk: wal.Run. -/
import Derived.Test.YtagpimahicgkmaaDoorMc
import Derived.Test.YtagpimahicgkmaaDoorWalA
namespace Go.Proofs.YtagpimahicgkmaaDoor
open Go.RowKit

theorem ops_at {l : List WOp} {k : Nat} (h : k < l.length) : (l.flatMap opC)[k * 3]? = some (.bool l[k].fl) ∧ (l.flatMap opC)[k * 3 + 1]? = some (.int .i64 l[k].wr.at_) ∧ (l.flatMap opC)[k * 3 + 2]? = some (.string l[k].wr.data) := by
  induction l generalizing k with
  | nil => simp at h
  | cons a l ih =>
    cases k with
    | zero => simp [opC]
    | succ k =>
      have := ih (k := k) (by simpa using h)
      simp only [List.flatMap_cons, List.getElem_cons_succ] at *
      rw [show (k + 1) * 3 = k * 3 + 3 by omega, show k * 3 + 3 + 1 = k * 3 + 1 + 3 by omega, show k * 3 + 3 + 2 = k * 3 + 2 + 3 by omega]
      simpa [opC] using this
theorem run_succ {d : Dk} {l : List WOp} {k : Nat} (h : k < l.length) : runO d l (k + 1) = stepO (runO d l k) l[k] := by
  unfold runO; rw [List.take_succ_eq_append_getElem h, List.foldl_append]; rfl
theorem step_cache (d : Dk) (o : WOp) : (stepO d o).cache.length ≤ d.cache.length + 1 := by
  unfold stepO
  split
  · unfold flushD perf; split <;> simp
  · split
    · unfold putR; split <;> simp
    · omega
theorem run_cache (d : Dk) (l : List WOp) : ∀ k, (runO d l k).cache.length ≤ d.cache.length + k
  | 0 => by simp [runO]
  | k + 1 => by
    have ih := run_cache d l k
    rcases Nat.lt_or_ge k l.length with h | h
    · rw [run_succ h]; have := step_cache (runO d l k) l[k]; omega
    · rw [run_over d l (by omega)]; rw [run_over d l h] at ih; omega
theorem put_two (d : Dk) (x : Wr) : (∃ y, putR d x = (y, 0)) ∨ putR d x = (⟨[], []⟩, 1) := by
  unfold putR; split
  · exact .inl ⟨_, rfl⟩
  · exact .inr rfl
theorem OpsAt.go {V U : List Nat} {w w' : World} {v : Value} {l : List WOp} (h : OpsAt V w v l) (k : Kept w w') (hU : Ext U w V) : OpsAt U w' v l := by
  obtain ⟨A, c, e, h1, h2, h3⟩ := h; exact ⟨A, c, e, h1, h2, h3.go k hU⟩

set_option maxRecDepth 100000 in
set_option maxHeartbeats 4000000 in
theorem run_any (V : List Nat) (d : Dk) (l : List WOp) (most : Int) (v u : Value) (w : World) (h : DkAt V w v d) (hu : OpsAt [] w u l) (hV : Old V w) (hc : d.cache.length ≤ 50000) (hl : l.length ≤ 1000) :
    Calls Tryd.prog 29 #[v, u, .int .i64 most] w fun e w' => ∃ s' c', e = .returned (.agg #[s', c']) ∧ DkAt V w' (.agg #[s', c']) (runO d l most.toNat) ∧ Kept w w' := by
  have H := Lib.hid h
  have HOV := Lib.hid hV
  obtain ⟨_, _, rfl, _, _⟩ := h
  obtain ⟨A0, c0, B0, e0, rfl, rfl⟩ := H.out.form
  obtain ⟨Q, q, rfl, hq1, hq2, hrow⟩ := hu
  unfold maxLen at hq2
  have HROW := Lib.hid hrow
  clear hrow hV
  have HC := Lib.hid hc
  clear hc
  generalize d.sec.length = n0 at *
  generalize hm0 : d.cache.length = m0 at *
  have HM0 := Lib.hid hm0
  clear hm0
  go_enter Tryd.func29, Tryd.ntmps29
  go_wp2_with fail
  have OD := Lib.hid ((Own.newAt w w.heap.size 25 [.slice A0 n0 c0, .slice B0 m0 e0] (by simp)).alloc (.cells #[.slice none 0 0, .slice none 0 0] 25))
  have OR := Lib.hid (Own.newAt (w.alloc (.cells #[.slice A0 n0 c0, .slice B0 m0 e0] 25)) (w.heap.size + 1) 25 [.slice none 0 0, .slice none 0 0] (by simp))
  have K := (((Kept.refl w).alloc (.cells #[.slice A0 n0 c0, .slice B0 m0 e0] 25)).alloc (.cells #[.slice none 0 0, .slice none 0 0] 25))
  generalize ((w.alloc (.cells #[.slice A0 n0 c0, .slice B0 m0 e0] 25)).alloc (.cells #[.slice none 0 0, .slice none 0 0] 25)) = w1 at *
  obtain ⟨cD0, cD1, fD0, fD1⟩ := OD.out.two
  obtain ⟨cR0, cR1, fR0, fR1⟩ := OR.out.two
  clear cD0 cD1 fD0 fD1 cR0 cR1 fR0 fR1
  have HD := Lib.hid (H.out.go K (Ext.cons (k := w.heap.size) (Nat.le_refl _) (Ext.cons (k := w.heap.size + 1) (by omega) (Ext.refl _ _))))
  generalize hU : w.heap.size :: (w.heap.size + 1) :: V = U at HD
  have HU1 : Hid (w.heap.size ∈ U ∧ w.heap.size + 1 ∈ U ∧ ∀ j ∈ V, j ∈ U) := by rw [← hU]; exact ⟨by simp, by simp, fun j hj => List.mem_cons_of_mem _ (List.mem_cons_of_mem _ hj)⟩
  have HU2 : Hid (∀ wq : World, w.heap.size + 1 < wq.heap.size → Old U wq) := by rw [← hU]; exact fun wq hq => Old.cons (by omega) (Old.cons hq (fun j hj => by have := HOV.out j hj; omega))
  clear hU
  go_wp2_with fail
  go_loopw [13] (fun iv wq => ∃ (k : Nat) (A : Option Addr) (n c : Nat) (B : Option Addr) (m e : Nat), k ≤ l.length ∧ k ≤ most.toNat ∧ iv = .int .i64 k ∧ Own wq w.heap.size 25 [.slice A n c, .slice B m e] ∧ Own wq (w.heap.size + 1) 25 [.slice none 0 0, .slice none 0 0] ∧ DkAt U wq (.agg #[.slice A n c, .slice B m e]) (runO d l k) ∧ Kept w wq) (fun iv _ => l.length - (intOf iv).toNat)
  case atStart => exact ⟨0, A0, n0, c0, B0, m0, e0, Nat.zero_le _, Nat.zero_le _, rfl, OD.out, OR.out, HD.out, K⟩
  case round =>
    clear OD OR HD K
    obtain ⟨k, A1, n1, c1, B1, m1, e1, hk, hkm, rfl, od, or, hd, K⟩ := hrel
    have OD := Lib.hid od
    have OR := Lib.hid or
    have HD := Lib.hid hd
    have HCB := Lib.hid (run_cache d l k)
    clear od or hd
    have zD := OD.out.lt
    have zR := OR.out.lt
    have k0 : (0 : Int) ≤ (k : Int) := by omega
    by_cases hlt : k < l.length
    · skip
      have HS := Lib.hid (run_succ (d := d) hlt)
      obtain ⟨b, o, rfl, hb, _, hcs⟩ := HROW.out (by rw [Tryd.elOp.cells_length]; omega)
      obtain ⟨g1, g2, g3⟩ := ops_at hlt
      replace g1 := (K.cell (p := ⟨b, o + k * 3, none⟩) hb).trans (hcs _ _ g1)
      replace g2 := (K.cell (p := ⟨b, o + k * 3 + 1, none⟩) hb).trans (hcs _ _ g2)
      replace g3 := (K.cell (p := ⟨b, o + k * 3 + 2, none⟩) hb).trans (hcs _ _ g3)
      have zb : b < wr.heap.size := Nat.lt_of_lt_of_le hb K.size
      clear hcs hb
      by_cases hmo : (k : Int) < most
      · have hmo' : ¬ (k : Int) ≥ most := by omega
        generalize runO d l k = dk at *
        generalize l[k] = op at *
        obtain ⟨fl, x⟩ := op
        obtain ⟨xa, xd⟩ := x
        simp only at g1 g2 g3
        cases fl with
        | true =>
          have HS2 : Hid (runO d l (k + 1) = flushD dk) := by show _ = _; rw [HS.out]; rfl
          clear HS
          obtain ⟨cD0, cD1, fD0, fD1⟩ := OD.out.two
          obtain ⟨cR0, cR1, fR0, fR1⟩ := OR.out.two
          go_wp2_with fail
          have zD0 := OD.out.lt
          have zR0 := OR.out.lt
          have zK0 := K.size
          clear cD0 cD1 fD0 fD1 cR0 cR1 fR0 fR1
          replace OD := Lib.hid (OD.out.alloc (.cells #[.bool true, .int .i64 xa, .string xd] 40))
          replace OR := Lib.hid (OR.out.alloc (.cells #[.bool true, .int .i64 xa, .string xd] 40))
          have OO := Lib.hid (Own.new wr 40 [.bool true, .int .i64 xa, .string xd])
          replace HD := Lib.hid (HD.out.go ((Kept.refl wr).alloc (.cells #[.bool true, .int .i64 xa, .string xd] 40)) (Ext.refl _ _))
          replace K := K.alloc (.cells #[.bool true, .int .i64 xa, .string xd] 40)
          generalize (wr.alloc (.cells #[.bool true, .int .i64 xa, .string xd] 40)) = wz1 at *
          refine (flush_any U dk _ _ HD.out (HU2.out _ OR.out.lt)).mono ?_
          rintro e wz2 ⟨s2, d2, rfl, hd2, hk⟩
          replace OD := Lib.hid (OD.out.kept hk)
          replace OR := Lib.hid (OR.out.kept hk)
          replace HD := Lib.hid (HD.out.go hk (Ext.refl _ _))
          replace K := K.trans hk
          obtain ⟨A2, c2, B2, e2, rfl, rfl⟩ := hd2.form
          generalize flushD dk = dk2 at HS2 hd2 ⊢
          generalize dk2.sec.length = n2 at hd2 ⊢
          generalize dk2.cache.length = m2 at hd2 ⊢
          replace HD := Lib.hid hd2
          clear hd2
          clear hk
          obtain ⟨cD0, cD1, fD0, fD1⟩ := OD.out.two
          obtain ⟨cR0, cR1, fR0, fR1⟩ := OR.out.two
          go_wp2_with fail
          clear cD0 cD1 fD0 fD1 cR0 cR1 fR0 fR1
          replace OD : Hid (Own ((wz2.setCell ⟨w.heap.size, 0, none⟩ (.slice A2 n2 c2)).setCell ⟨w.heap.size, 1, none⟩ (.slice B2 m2 e2)) w.heap.size 25 [.slice A2 n2 c2, .slice B2 m2 e2]) := Lib.hid ((OD.out.set_ 0 (.slice A2 n2 c2)).set_ 1 (.slice B2 m2 e2))
          replace OR : Hid (Own ((wz2.setCell ⟨w.heap.size, 0, none⟩ (.slice A2 n2 c2)).setCell ⟨w.heap.size, 1, none⟩ (.slice B2 m2 e2)) (w.heap.size + 1) 25 [.slice none 0 0, .slice none 0 0]) := Lib.hid ((OR.out.far (p := ⟨w.heap.size, 0, none⟩) (by first | omega | (simp; omega) | simp) (.slice A2 n2 c2)).far (p := ⟨w.heap.size, 1, none⟩) (by first | omega | (simp; omega) | simp) (.slice B2 m2 e2))
          replace HD := Lib.hid ((HD.out.put (p := ⟨w.heap.size, 0, none⟩) (by first | exact HU1.out.1 | exact HU1.out.2.1) (.slice A2 n2 c2)).put (p := ⟨w.heap.size, 1, none⟩) (by first | exact HU1.out.1 | exact HU1.out.2.1) (.slice B2 m2 e2))
          replace K := ((K.setCell (p := ⟨w.heap.size, 0, none⟩) (by first | exact Nat.le_refl _ | (simp only []; omega) | simp) (.slice A2 n2 c2)).setCell (p := ⟨w.heap.size, 1, none⟩) (by first | exact Nat.le_refl _ | (simp only []; omega) | simp) (.slice B2 m2 e2))
          generalize ((wz2.setCell ⟨w.heap.size, 0, none⟩ (.slice A2 n2 c2)).setCell ⟨w.heap.size, 1, none⟩ (.slice B2 m2 e2)) = wz3 at *
          go_wp2
          go_roundw
          case rel => exact ⟨k + 1, A2, n2, c2, B2, m2, e2, by omega, by omega, by go_num, OD.out, OR.out, by rw [HS2.out]; exact HD.out, K⟩
          case measure => simp [intOf]; omega
        | false =>
          have HP := Lib.hid (put_two dk ⟨xa, xd⟩)
          obtain ⟨cD0, cD1, fD0, fD1⟩ := OD.out.two
          obtain ⟨cR0, cR1, fR0, fR1⟩ := OR.out.two
          go_wp2_with fail
          have zD0 := OD.out.lt
          have zR0 := OR.out.lt
          have zK0 := K.size
          clear cD0 cD1 fD0 fD1 cR0 cR1 fR0 fR1
          replace OD := Lib.hid (OD.out.alloc (.cells #[.bool false, .int .i64 xa, .string xd] 40))
          replace OR := Lib.hid (OR.out.alloc (.cells #[.bool false, .int .i64 xa, .string xd] 40))
          have OO := Lib.hid (Own.new wr 40 [.bool false, .int .i64 xa, .string xd])
          replace HD := Lib.hid (HD.out.go ((Kept.refl wr).alloc (.cells #[.bool false, .int .i64 xa, .string xd] 40)) (Ext.refl _ _))
          replace K := K.alloc (.cells #[.bool false, .int .i64 xa, .string xd] 40)
          generalize (wr.alloc (.cells #[.bool false, .int .i64 xa, .string xd] 40)) = wz1 at *
          refine (put_any U dk ⟨xa, xd⟩ _ _ HD.out (HU2.out _ OR.out.lt) (by have := HCB.out; have := HM0.out; have := HC.out; omega)).mono ?_
          rintro e wz2 ⟨s2, d2, rfl, hd2, hk⟩
          replace OD := Lib.hid (OD.out.kept hk)
          replace OR := Lib.hid (OR.out.kept hk)
          replace HD := Lib.hid (HD.out.go hk (Ext.refl _ _))
          replace K := K.trans hk
          clear hk
          obtain ⟨A2, c2, B2, e2, rfl, rfl⟩ := hd2.form
          rcases HP.out with ⟨y, hy⟩ | hy
          · rw [hy] at hd2 ⊢
            have HS2 : Hid (runO d l (k + 1) = y) := by show _ = _; rw [HS.out]; show (if (putR dk ⟨xa, xd⟩).2 = 0 then (putR dk ⟨xa, xd⟩).1 else dk) = y; rw [hy]; rfl
            clear HS hy
            dsimp only at hd2 ⊢
            generalize y.sec.length = n2 at hd2 ⊢
            generalize y.cache.length = m2 at hd2 ⊢
            have HD2 := Lib.hid hd2
            clear hd2 HD
            have zD2 := OD.out.lt
            have zR2 := OR.out.lt
            have zK2 := K.size
            obtain ⟨cD0, cD1, fD0, fD1⟩ := OD.out.two
            obtain ⟨cR0, cR1, fR0, fR1⟩ := OR.out.two
            go_wp2
            clear cD0 cD1 fD0 fD1 cR0 cR1 fR0 fR1
            replace OD : Hid (Own ((wz2.setCell ⟨w.heap.size, 0, none⟩ (.slice A2 n2 c2)).setCell ⟨w.heap.size, 1, none⟩ (.slice B2 m2 e2)) w.heap.size 25 [.slice A2 n2 c2, .slice B2 m2 e2]) := Lib.hid ((OD.out.set_ 0 (.slice A2 n2 c2)).set_ 1 (.slice B2 m2 e2))
            replace OR : Hid (Own ((wz2.setCell ⟨w.heap.size, 0, none⟩ (.slice A2 n2 c2)).setCell ⟨w.heap.size, 1, none⟩ (.slice B2 m2 e2)) (w.heap.size + 1) 25 [.slice none 0 0, .slice none 0 0]) := Lib.hid ((OR.out.far (p := ⟨w.heap.size, 0, none⟩) (by first | omega | (simp; omega) | simp) (.slice A2 n2 c2)).far (p := ⟨w.heap.size, 1, none⟩) (by first | omega | (simp; omega) | simp) (.slice B2 m2 e2))
            replace HD2 := Lib.hid ((HD2.out.put (p := ⟨w.heap.size, 0, none⟩) (by first | exact HU1.out.1 | exact HU1.out.2.1) (.slice A2 n2 c2)).put (p := ⟨w.heap.size, 1, none⟩) (by first | exact HU1.out.1 | exact HU1.out.2.1) (.slice B2 m2 e2))
            replace K := ((K.setCell (p := ⟨w.heap.size, 0, none⟩) (by first | exact Nat.le_refl _ | (simp only []; omega) | simp) (.slice A2 n2 c2)).setCell (p := ⟨w.heap.size, 1, none⟩) (by first | exact Nat.le_refl _ | (simp only []; omega) | simp) (.slice B2 m2 e2))
            generalize ((wz2.setCell ⟨w.heap.size, 0, none⟩ (.slice A2 n2 c2)).setCell ⟨w.heap.size, 1, none⟩ (.slice B2 m2 e2)) = wz3 at *
            replace OD := Lib.hid (OD.out.alloc (.cells #[.slice A2 n2 c2, .slice B2 m2 e2] 25))
            replace OR := Lib.hid (OR.out.alloc (.cells #[.slice A2 n2 c2, .slice B2 m2 e2] 25))
            have OP := Lib.hid (Own.new wz3 25 [.slice A2 n2 c2, .slice B2 m2 e2])
            replace HD2 := Lib.hid (HD2.out.go ((Kept.refl wz3).alloc (.cells #[.slice A2 n2 c2, .slice B2 m2 e2] 25)) (Ext.refl _ _))
            replace K := K.alloc (.cells #[.slice A2 n2 c2, .slice B2 m2 e2] 25)
            generalize (wz3.alloc (.cells #[.slice A2 n2 c2, .slice B2 m2 e2] 25)) = wz4 at *
            have HD := HD2
            go_roundw
            case rel => exact ⟨k + 1, A2, n2, c2, B2, m2, e2, by omega, by omega, by go_num, OD.out, OR.out, by rw [HS2.out]; exact HD.out, K⟩
            case measure => simp [intOf]; omega
          · rw [hy] at hd2 ⊢
            have HS2 : Hid (runO d l (k + 1) = dk) := by show _ = _; rw [HS.out]; show (if (putR dk ⟨xa, xd⟩).2 = 0 then (putR dk ⟨xa, xd⟩).1 else dk) = dk; rw [hy]; rfl
            clear HS hy hd2
            dsimp only [List.length_nil]
            obtain ⟨cD0, cD1, fD0, fD1⟩ := OD.out.two
            obtain ⟨cR0, cR1, fR0, fR1⟩ := OR.out.two
            go_wp2_with fail
            have zD2 := OD.out.lt
            have zR2 := OR.out.lt
            have zK2 := K.size
            clear cD0 cD1 fD0 fD1 cR0 cR1 fR0 fR1
            replace OD := Lib.hid (OD.out.alloc (.cells #[.slice A2 0 c2, .slice B2 0 e2] 25))
            replace OR := Lib.hid (OR.out.alloc (.cells #[.slice A2 0 c2, .slice B2 0 e2] 25))
            have OP := Lib.hid (Own.new wz2 25 [.slice A2 0 c2, .slice B2 0 e2])
            replace HD := Lib.hid (HD.out.go ((Kept.refl wz2).alloc (.cells #[.slice A2 0 c2, .slice B2 0 e2] 25)) (Ext.refl _ _))
            replace K := K.alloc (.cells #[.slice A2 0 c2, .slice B2 0 e2] 25)
            generalize (wz2.alloc (.cells #[.slice A2 0 c2, .slice B2 0 e2] 25)) = wz3 at *
            obtain ⟨cD0, cD1, fD0, fD1⟩ := OD.out.two
            obtain ⟨cR0, cR1, fR0, fR1⟩ := OR.out.two
            go_wp2
            go_roundw
            case rel => exact ⟨k + 1, A1, n1, c1, B1, m1, e1, by omega, by omega, by go_num, OD.out, OR.out, by rw [HS2.out]; exact HD.out, K⟩
            case measure => simp [intOf]; omega
      · have hmo' : (k : Int) ≥ most := by omega
        generalize l[k] = op at *
        obtain ⟨fl, x⟩ := op
        obtain ⟨xa, xd⟩ := x
        simp only at g1 g2 g3
        have zD0 := OD.out.lt
        have zR0 := OR.out.lt
        have zK0 := K.size
        have HX : Hid (runO d l most.toNat = runO d l k) := by show _ = _; rw [show most.toNat = k by omega]
        generalize runO d l k = dk at *
        obtain ⟨cD0, cD1, fD0, fD1⟩ := OD.out.two
        obtain ⟨cR0, cR1, fR0, fR1⟩ := OR.out.two
        go_wp2
        clear cD0 cD1 fD0 fD1 cR0 cR1 fR0 fR1
        replace OD : Hid (Own ((wr.setCell ⟨(w.heap.size + 1), 0, none⟩ (.slice A1 n1 c1)).setCell ⟨(w.heap.size + 1), 1, none⟩ (.slice B1 m1 e1)) w.heap.size 25 [.slice A1 n1 c1, .slice B1 m1 e1]) := Lib.hid ((OD.out.far (p := ⟨(w.heap.size + 1), 0, none⟩) (by first | omega | (simp; omega) | simp) (.slice A1 n1 c1)).far (p := ⟨(w.heap.size + 1), 1, none⟩) (by first | omega | (simp; omega) | simp) (.slice B1 m1 e1))
        replace OR : Hid (Own ((wr.setCell ⟨(w.heap.size + 1), 0, none⟩ (.slice A1 n1 c1)).setCell ⟨(w.heap.size + 1), 1, none⟩ (.slice B1 m1 e1)) (w.heap.size + 1) 25 [.slice A1 n1 c1, .slice B1 m1 e1]) := Lib.hid ((OR.out.set_ 0 (.slice A1 n1 c1)).set_ 1 (.slice B1 m1 e1))
        replace HD := Lib.hid ((HD.out.put (p := ⟨(w.heap.size + 1), 0, none⟩) (by first | exact HU1.out.1 | exact HU1.out.2.1) (.slice A1 n1 c1)).put (p := ⟨(w.heap.size + 1), 1, none⟩) (by first | exact HU1.out.1 | exact HU1.out.2.1) (.slice B1 m1 e1))
        replace K := ((K.setCell (p := ⟨(w.heap.size + 1), 0, none⟩) (by first | exact Nat.le_refl _ | (simp only []; omega) | simp) (.slice A1 n1 c1)).setCell (p := ⟨(w.heap.size + 1), 1, none⟩) (by first | exact Nat.le_refl _ | (simp only []; omega) | simp) (.slice B1 m1 e1))
        generalize ((wr.setCell ⟨(w.heap.size + 1), 0, none⟩ (.slice A1 n1 c1)).setCell ⟨(w.heap.size + 1), 1, none⟩ (.slice B1 m1 e1)) = wz1 at *
        obtain ⟨cD0, cD1, fD0, fD1⟩ := OD.out.two
        obtain ⟨cR0, cR1, fR0, fR1⟩ := OR.out.two
        clear cD0 cD1 fD0 fD1 cR0 cR1 fR0 fR1
        replace OD := Lib.hid (OD.out.alloc (.cells #[.bool fl, .int .i64 xa, .string xd] 40))
        replace OR := Lib.hid (OR.out.alloc (.cells #[.bool fl, .int .i64 xa, .string xd] 40))
        have OO := Lib.hid (Own.new wz1 40 [.bool fl, .int .i64 xa, .string xd])
        replace HD := Lib.hid (HD.out.go ((Kept.refl wz1).alloc (.cells #[.bool fl, .int .i64 xa, .string xd] 40)) (Ext.refl _ _))
        replace K := K.alloc (.cells #[.bool fl, .int .i64 xa, .string xd] 40)
        generalize (wz1.alloc (.cells #[.bool fl, .int .i64 xa, .string xd] 40)) = wz2 at *
        obtain ⟨cD0, cD1, fD0, fD1⟩ := OD.out.two
        obtain ⟨cR0, cR1, fR0, fR1⟩ := OR.out.two
        obtain ⟨cO0, cO1, cO2, fO0, fO1, fO2⟩ := OO.out.three
        refine bodyPost_ret (v := .agg #[.slice A1 n1 c1, .slice B1 m1 e1]) (by simp [results, Tryd.results29, go_sem, cR0, cR1]) rfl ?_
        exact ⟨_, _, rfl, by rw [HX.out]; exact HD.out.weak HU1.out.2.2, K⟩
    · skip
      have HX : Hid (runO d l most.toNat = runO d l k) := by show _ = _; rw [run_over d l (by omega), run_over d l (by omega)]
      generalize runO d l k = dk at *
      obtain ⟨cD0, cD1, fD0, fD1⟩ := OD.out.two
      obtain ⟨cR0, cR1, fR0, fR1⟩ := OR.out.two
      go_wp2
      clear cD0 cD1 fD0 fD1 cR0 cR1 fR0 fR1
      replace OD : Hid (Own ((wr.setCell ⟨(w.heap.size + 1), 0, none⟩ (.slice A1 n1 c1)).setCell ⟨(w.heap.size + 1), 1, none⟩ (.slice B1 m1 e1)) w.heap.size 25 [.slice A1 n1 c1, .slice B1 m1 e1]) := Lib.hid ((OD.out.far (p := ⟨(w.heap.size + 1), 0, none⟩) (by first | omega | (simp; omega) | simp) (.slice A1 n1 c1)).far (p := ⟨(w.heap.size + 1), 1, none⟩) (by first | omega | (simp; omega) | simp) (.slice B1 m1 e1))
      replace OR : Hid (Own ((wr.setCell ⟨(w.heap.size + 1), 0, none⟩ (.slice A1 n1 c1)).setCell ⟨(w.heap.size + 1), 1, none⟩ (.slice B1 m1 e1)) (w.heap.size + 1) 25 [.slice A1 n1 c1, .slice B1 m1 e1]) := Lib.hid ((OR.out.set_ 0 (.slice A1 n1 c1)).set_ 1 (.slice B1 m1 e1))
      replace HD := Lib.hid ((HD.out.put (p := ⟨(w.heap.size + 1), 0, none⟩) (by first | exact HU1.out.1 | exact HU1.out.2.1) (.slice A1 n1 c1)).put (p := ⟨(w.heap.size + 1), 1, none⟩) (by first | exact HU1.out.1 | exact HU1.out.2.1) (.slice B1 m1 e1))
      replace K := ((K.setCell (p := ⟨(w.heap.size + 1), 0, none⟩) (by first | exact Nat.le_refl _ | (simp only []; omega) | simp) (.slice A1 n1 c1)).setCell (p := ⟨(w.heap.size + 1), 1, none⟩) (by first | exact Nat.le_refl _ | (simp only []; omega) | simp) (.slice B1 m1 e1))
      generalize ((wr.setCell ⟨(w.heap.size + 1), 0, none⟩ (.slice A1 n1 c1)).setCell ⟨(w.heap.size + 1), 1, none⟩ (.slice B1 m1 e1)) = wz1 at *
      obtain ⟨cD0, cD1, fD0, fD1⟩ := OD.out.two
      obtain ⟨cR0, cR1, fR0, fR1⟩ := OR.out.two
      refine bodyPost_ret (v := .agg #[.slice A1 n1 c1, .slice B1 m1 e1]) (by simp [results, Tryd.results29, go_sem, cR0, cR1]) rfl ?_
      exact ⟨_, _, rfl, by rw [HX.out]; exact HD.out.weak HU1.out.2.2, K⟩
end Go.Proofs.YtagpimahicgkmaaDoor
