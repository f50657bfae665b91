/- Walk: mailsacklaw15.done. -/
import Derived.Test.YtjinnkbnllnllaaIxRename
import Derived.Test.YtjinnkbnllnllaaIxCopy
import Derived.Test.YtjinnkbnllnllaaIxSub
import Derived.Test.YtjinnkbnllnllaaL15Keep
namespace Go.Proofs.Ytjinnkbnllnllaa
open Go.RowKit

/-- What an act makes of an index. -/
def actR (x : Ix) (k : Nat) (an am : Int) (nm tn : ByteArray) : Ix × Int :=
  match k with
  | 0 => creR x nm
  | 1 => delR x nm
  | 2 => renR x nm tn
  | 3 => subR x nm (decide (0 < an))
  | 4 => ((appR x nm an am 0).1, (appR x nm an am 0).2.2)
  | 5 => flagR x nm an am
  | 6 => expR x nm an
  | _ => ((copR x nm an tn).1, (copR x nm an tn).2.2)
def doneR (x : Ix) (k : Nat) (an am : Int) (nm tn : ByteArray) : Ix := if (actR x k an am nm tn).2 = 0 then (actR x k an am nm tn).1 else x
def kindOf (ak : Int) : Int := (IntKind.u64.wrap ak).tmod 8
def IxRet1 (V : List Nat) (x : Ix) (w : World) (e : Ending) (w' : World) : Prop := ∃ v, e = .returned v ∧ IxAt V w' v x ∧ Kept w w'

set_option maxRecDepth 100000 in
set_option maxHeartbeats 1000000 in
theorem done_0 (V : List Nat) (x : Ix) (v : Value) (ak an am : Int) (nm tn : ByteArray) (w : World) (hV : Old V w) (h : IxAt V w v x) (hok : IxOk x) (hns : nm.size ≤ maxLen) (hts : tn.size ≤ maxLen) (han : I64 an) (hkd : kindOf ak = 0) :
    Calls Try.prog 30 #[v, .agg #[.int .i64 ak, .int .i64 an, .int .i64 am, .string nm, .string tn]] w (IxRet1 V (doneR x 0 an am nm tn) w) := by
  have HV := Lib.hid h
  have HOV := Lib.hid hV
  have HOK := Lib.hid hok
  have HNS := Lib.hid hns
  have HTS := Lib.hid hts
  have HAN := Lib.hid han
  have HKD := Lib.hid hkd
  obtain ⟨A, c, A', c', rfl, hc1, hc2, hc3, hc4, hbx, hrow⟩ := (h.weak (U := []) (fun _ hk => by cases hk)).open_
  have HROW := Lib.hid hrow
  clear hbx hrow h hok hV hns hts han hkd
  unfold maxLen at hc2 hc4
  generalize hn : x.boxes.length = n at *
  generalize hm : x.subs.length = m at *
  generalize hg : x.given = gv at *
  have HN := Lib.hid hn
  have HM := Lib.hid hm
  have HG := Lib.hid hg
  clear hn hm hg
  have hkk := HKD.out
  unfold kindOf at hkk
  have tk0 : ((IntKind.u64.wrap ak).tmod 8 == 0) = true := beq_t hkk
  clear hkk
  go_enter Try.func30, Try.ntmps30
  go_wp2_with fail
  have OX := Lib.hid ((((Own.newAt w w.heap.size 25 [.slice A n c, .slice A' m c', .int .i64 gv] (by simp)).alloc (.cells #[.int .i64 ak, .int .i64 an, .int .i64 am, .string nm, .string tn] 68)).alloc (.cells #[.slice none 0 0, .slice none 0 0, .int .i64 0] 25)).alloc (.cells #[.slice A n c, .slice A' m c', .int .i64 gv] 25))
  have OA := Lib.hid (((Own.newAt (w.alloc (.cells #[.slice A n c, .slice A' m c', .int .i64 gv] 25)) (w.heap.size + 1) 68 [.int .i64 ak, .int .i64 an, .int .i64 am, .string nm, .string tn] (by simp)).alloc (.cells #[.slice none 0 0, .slice none 0 0, .int .i64 0] 25)).alloc (.cells #[.slice A n c, .slice A' m c', .int .i64 gv] 25))
  have OR := Lib.hid ((Own.newAt ((w.alloc (.cells #[.slice A n c, .slice A' m c', .int .i64 gv] 25)).alloc (.cells #[.int .i64 ak, .int .i64 an, .int .i64 am, .string nm, .string tn] 68)) (w.heap.size + 2) 25 [.slice none 0 0, .slice none 0 0, .int .i64 0] (by simp)).alloc (.cells #[.slice A n c, .slice A' m c', .int .i64 gv] 25))
  have OY := Lib.hid (Own.newAt (((w.alloc (.cells #[.slice A n c, .slice A' m c', .int .i64 gv] 25)).alloc (.cells #[.int .i64 ak, .int .i64 an, .int .i64 am, .string nm, .string tn] 68)).alloc (.cells #[.slice none 0 0, .slice none 0 0, .int .i64 0] 25)) (w.heap.size + 3) 25 [.slice A n c, .slice A' m c', .int .i64 gv] (by simp))
  have K := (((((Kept.refl w).alloc (.cells #[.slice A n c, .slice A' m c', .int .i64 gv] 25)).alloc (.cells #[.int .i64 ak, .int .i64 an, .int .i64 am, .string nm, .string tn] 68)).alloc (.cells #[.slice none 0 0, .slice none 0 0, .int .i64 0] 25)).alloc (.cells #[.slice A n c, .slice A' m c', .int .i64 gv] 25))
  generalize ((((w.alloc (.cells #[.slice A n c, .slice A' m c', .int .i64 gv] 25)).alloc (.cells #[.int .i64 ak, .int .i64 an, .int .i64 am, .string nm, .string tn] 68)).alloc (.cells #[.slice none 0 0, .slice none 0 0, .int .i64 0] 25)).alloc (.cells #[.slice A n c, .slice A' m c', .int .i64 gv] 25)) = w1 at *
  obtain ⟨cX0, cX1, cX2, fX0, fX1, fX2⟩ := OX.out.three
  have cA0 := OA.out.cell? 0
  have fA0 := OA.out.frozen 0
  have cA1 := OA.out.cell? 1
  have fA1 := OA.out.frozen 1
  have cA2 := OA.out.cell? 2
  have fA2 := OA.out.frozen 2
  have cA3 := OA.out.cell? 3
  have fA3 := OA.out.frozen 3
  have cA4 := OA.out.cell? 4
  have fA4 := OA.out.frozen 4
  simp only [List.getElem?_cons_zero, List.getElem?_cons_succ] at cA0 cA1 cA2 cA3 cA4
  obtain ⟨cR0, cR1, cR2, fR0, fR1, fR2⟩ := OR.out.three
  obtain ⟨cY0, cY1, cY2, fY0, fY1, fY2⟩ := OY.out.three
  have zX1 := OX.out.lt
  have zA1 := OA.out.lt
  have zR1 := OR.out.lt
  have zY1 := OY.out.lt
  have zK1 := K.size
  refine (cre_any ((w.heap.size + 2) :: (w.heap.size + 3) :: V) x _ nm _ (Old.cons OR.out.lt (Old.cons OY.out.lt (HOV.out.go K))) (HV.out.go K (Ext.cons (by omega) (Ext.cons (by omega) (Ext.refl _ _)))) HOK.out HNS.out).mono ?_
  rintro e w2 ⟨v2, rfl, hx2, hk⟩
  clear cX0 cX1 cX2 fX0 fX1 fX2 cA0 cA1 cA2 cA3 cA4 fA0 fA1 fA2 fA3 fA4 cR0 cR1 cR2 fR0 fR1 fR2 cY0 cY1 cY2 fY0 fY1 fY2
  replace OX := Lib.hid (OX.out.kept hk)
  replace OA := Lib.hid (OA.out.kept hk)
  replace OR := Lib.hid (OR.out.kept hk)
  replace OY := Lib.hid (OY.out.kept hk)
  replace K := K.trans hk
  have HX2 := Lib.hid hx2
  obtain ⟨A2, c2, A3, c3, rfl⟩ := hx2.form
  clear hx2
  clear hk
  have HAC : Hid (actR x 0 an am nm tn = ((creR x nm).1, (creR x nm).2)) := rfl
  generalize (creR x nm).1 = y at *
  generalize (creR x nm).2 = er at *
  generalize y.boxes.length = n2 at HX2 ⊢
  generalize y.subs.length = n3 at HX2 ⊢
  generalize y.given = gv2 at HX2 ⊢
  obtain ⟨cX0, cX1, cX2, fX0, fX1, fX2⟩ := OX.out.three
  have cA0 := OA.out.cell? 0
  have fA0 := OA.out.frozen 0
  have cA1 := OA.out.cell? 1
  have fA1 := OA.out.frozen 1
  have cA2 := OA.out.cell? 2
  have fA2 := OA.out.frozen 2
  have cA3 := OA.out.cell? 3
  have fA3 := OA.out.frozen 3
  have cA4 := OA.out.cell? 4
  have fA4 := OA.out.frozen 4
  simp only [List.getElem?_cons_zero, List.getElem?_cons_succ] at cA0 cA1 cA2 cA3 cA4
  obtain ⟨cR0, cR1, cR2, fR0, fR1, fR2⟩ := OR.out.three
  obtain ⟨cY0, cY1, cY2, fY0, fY1, fY2⟩ := OY.out.three
  by_cases he : er = 0
  · subst he
    go_wp2
    clear cX0 cX1 cX2 fX0 fX1 fX2 cA0 cA1 cA2 cA3 cA4 fA0 fA1 fA2 fA3 fA4 cR0 cR1 cR2 fR0 fR1 fR2 cY0 cY1 cY2 fY0 fY1 fY2
    replace OX : Hid (Own (((w2.setCell ⟨(w.heap.size + 3), 0, none⟩ (.slice A2 n2 c2)).setCell ⟨(w.heap.size + 3), 1, none⟩ (.slice A3 n3 c3)).setCell ⟨(w.heap.size + 3), 2, none⟩ (.int .i64 gv2)) w.heap.size 25 [.slice A n c, .slice A' m c', .int .i64 gv]) := Lib.hid (((OX.out.far (p := ⟨(w.heap.size + 3), 0, none⟩) (by first | omega | (simp; omega) | simp) (.slice A2 n2 c2)).far (p := ⟨(w.heap.size + 3), 1, none⟩) (by first | omega | (simp; omega) | simp) (.slice A3 n3 c3)).far (p := ⟨(w.heap.size + 3), 2, none⟩) (by first | omega | (simp; omega) | simp) (.int .i64 gv2))
    replace OA : Hid (Own (((w2.setCell ⟨(w.heap.size + 3), 0, none⟩ (.slice A2 n2 c2)).setCell ⟨(w.heap.size + 3), 1, none⟩ (.slice A3 n3 c3)).setCell ⟨(w.heap.size + 3), 2, none⟩ (.int .i64 gv2)) (w.heap.size + 1) 68 [.int .i64 ak, .int .i64 an, .int .i64 am, .string nm, .string tn]) := Lib.hid (((OA.out.far (p := ⟨(w.heap.size + 3), 0, none⟩) (by first | omega | (simp; omega) | simp) (.slice A2 n2 c2)).far (p := ⟨(w.heap.size + 3), 1, none⟩) (by first | omega | (simp; omega) | simp) (.slice A3 n3 c3)).far (p := ⟨(w.heap.size + 3), 2, none⟩) (by first | omega | (simp; omega) | simp) (.int .i64 gv2))
    replace OR : Hid (Own (((w2.setCell ⟨(w.heap.size + 3), 0, none⟩ (.slice A2 n2 c2)).setCell ⟨(w.heap.size + 3), 1, none⟩ (.slice A3 n3 c3)).setCell ⟨(w.heap.size + 3), 2, none⟩ (.int .i64 gv2)) (w.heap.size + 2) 25 [.slice none 0 0, .slice none 0 0, .int .i64 0]) := Lib.hid (((OR.out.far (p := ⟨(w.heap.size + 3), 0, none⟩) (by first | omega | (simp; omega) | simp) (.slice A2 n2 c2)).far (p := ⟨(w.heap.size + 3), 1, none⟩) (by first | omega | (simp; omega) | simp) (.slice A3 n3 c3)).far (p := ⟨(w.heap.size + 3), 2, none⟩) (by first | omega | (simp; omega) | simp) (.int .i64 gv2))
    replace OY : Hid (Own (((w2.setCell ⟨(w.heap.size + 3), 0, none⟩ (.slice A2 n2 c2)).setCell ⟨(w.heap.size + 3), 1, none⟩ (.slice A3 n3 c3)).setCell ⟨(w.heap.size + 3), 2, none⟩ (.int .i64 gv2)) (w.heap.size + 3) 25 [.slice A2 n2 c2, .slice A3 n3 c3, .int .i64 gv2]) := Lib.hid (((OY.out.set_ 0 (.slice A2 n2 c2)).set_ 1 (.slice A3 n3 c3)).set_ 2 (.int .i64 gv2))
    replace HX2 := Lib.hid (((HX2.out.put (p := ⟨(w.heap.size + 3), 0, none⟩) (by simp) (.slice A2 n2 c2)).put (p := ⟨(w.heap.size + 3), 1, none⟩) (by simp) (.slice A3 n3 c3)).put (p := ⟨(w.heap.size + 3), 2, none⟩) (by simp) (.int .i64 gv2))
    replace K := (((K.setCell (p := ⟨(w.heap.size + 3), 0, none⟩) (by first | exact Nat.le_refl _ | (simp only []; omega) | simp) (.slice A2 n2 c2)).setCell (p := ⟨(w.heap.size + 3), 1, none⟩) (by first | exact Nat.le_refl _ | (simp only []; omega) | simp) (.slice A3 n3 c3)).setCell (p := ⟨(w.heap.size + 3), 2, none⟩) (by first | exact Nat.le_refl _ | (simp only []; omega) | simp) (.int .i64 gv2))
    generalize (((w2.setCell ⟨(w.heap.size + 3), 0, none⟩ (.slice A2 n2 c2)).setCell ⟨(w.heap.size + 3), 1, none⟩ (.slice A3 n3 c3)).setCell ⟨(w.heap.size + 3), 2, none⟩ (.int .i64 gv2)) = w3 at *
    replace OX : Hid (Own (((w3.setCell ⟨(w.heap.size + 2), 0, none⟩ (.slice A2 n2 c2)).setCell ⟨(w.heap.size + 2), 1, none⟩ (.slice A3 n3 c3)).setCell ⟨(w.heap.size + 2), 2, none⟩ (.int .i64 gv2)) w.heap.size 25 [.slice A n c, .slice A' m c', .int .i64 gv]) := Lib.hid (((OX.out.far (p := ⟨(w.heap.size + 2), 0, none⟩) (by first | omega | (simp; omega) | simp) (.slice A2 n2 c2)).far (p := ⟨(w.heap.size + 2), 1, none⟩) (by first | omega | (simp; omega) | simp) (.slice A3 n3 c3)).far (p := ⟨(w.heap.size + 2), 2, none⟩) (by first | omega | (simp; omega) | simp) (.int .i64 gv2))
    replace OA : Hid (Own (((w3.setCell ⟨(w.heap.size + 2), 0, none⟩ (.slice A2 n2 c2)).setCell ⟨(w.heap.size + 2), 1, none⟩ (.slice A3 n3 c3)).setCell ⟨(w.heap.size + 2), 2, none⟩ (.int .i64 gv2)) (w.heap.size + 1) 68 [.int .i64 ak, .int .i64 an, .int .i64 am, .string nm, .string tn]) := Lib.hid (((OA.out.far (p := ⟨(w.heap.size + 2), 0, none⟩) (by first | omega | (simp; omega) | simp) (.slice A2 n2 c2)).far (p := ⟨(w.heap.size + 2), 1, none⟩) (by first | omega | (simp; omega) | simp) (.slice A3 n3 c3)).far (p := ⟨(w.heap.size + 2), 2, none⟩) (by first | omega | (simp; omega) | simp) (.int .i64 gv2))
    replace OR : Hid (Own (((w3.setCell ⟨(w.heap.size + 2), 0, none⟩ (.slice A2 n2 c2)).setCell ⟨(w.heap.size + 2), 1, none⟩ (.slice A3 n3 c3)).setCell ⟨(w.heap.size + 2), 2, none⟩ (.int .i64 gv2)) (w.heap.size + 2) 25 [.slice A2 n2 c2, .slice A3 n3 c3, .int .i64 gv2]) := Lib.hid (((OR.out.set_ 0 (.slice A2 n2 c2)).set_ 1 (.slice A3 n3 c3)).set_ 2 (.int .i64 gv2))
    replace OY : Hid (Own (((w3.setCell ⟨(w.heap.size + 2), 0, none⟩ (.slice A2 n2 c2)).setCell ⟨(w.heap.size + 2), 1, none⟩ (.slice A3 n3 c3)).setCell ⟨(w.heap.size + 2), 2, none⟩ (.int .i64 gv2)) (w.heap.size + 3) 25 [.slice A2 n2 c2, .slice A3 n3 c3, .int .i64 gv2]) := Lib.hid (((OY.out.far (p := ⟨(w.heap.size + 2), 0, none⟩) (by first | omega | (simp; omega) | simp) (.slice A2 n2 c2)).far (p := ⟨(w.heap.size + 2), 1, none⟩) (by first | omega | (simp; omega) | simp) (.slice A3 n3 c3)).far (p := ⟨(w.heap.size + 2), 2, none⟩) (by first | omega | (simp; omega) | simp) (.int .i64 gv2))
    replace HX2 := Lib.hid (((HX2.out.put (p := ⟨(w.heap.size + 2), 0, none⟩) (by simp) (.slice A2 n2 c2)).put (p := ⟨(w.heap.size + 2), 1, none⟩) (by simp) (.slice A3 n3 c3)).put (p := ⟨(w.heap.size + 2), 2, none⟩) (by simp) (.int .i64 gv2))
    replace K := (((K.setCell (p := ⟨(w.heap.size + 2), 0, none⟩) (by first | exact Nat.le_refl _ | (simp only []; omega) | simp) (.slice A2 n2 c2)).setCell (p := ⟨(w.heap.size + 2), 1, none⟩) (by first | exact Nat.le_refl _ | (simp only []; omega) | simp) (.slice A3 n3 c3)).setCell (p := ⟨(w.heap.size + 2), 2, none⟩) (by first | exact Nat.le_refl _ | (simp only []; omega) | simp) (.int .i64 gv2))
    generalize (((w3.setCell ⟨(w.heap.size + 2), 0, none⟩ (.slice A2 n2 c2)).setCell ⟨(w.heap.size + 2), 1, none⟩ (.slice A3 n3 c3)).setCell ⟨(w.heap.size + 2), 2, none⟩ (.int .i64 gv2)) = w4 at *
    obtain ⟨cX0, cX1, cX2, fX0, fX1, fX2⟩ := OX.out.three
    have cA0 := OA.out.cell? 0
    have fA0 := OA.out.frozen 0
    have cA1 := OA.out.cell? 1
    have fA1 := OA.out.frozen 1
    have cA2 := OA.out.cell? 2
    have fA2 := OA.out.frozen 2
    have cA3 := OA.out.cell? 3
    have fA3 := OA.out.frozen 3
    have cA4 := OA.out.cell? 4
    have fA4 := OA.out.frozen 4
    simp only [List.getElem?_cons_zero, List.getElem?_cons_succ] at cA0 cA1 cA2 cA3 cA4
    obtain ⟨cR0, cR1, cR2, fR0, fR1, fR2⟩ := OR.out.three
    obtain ⟨cY0, cY1, cY2, fY0, fY1, fY2⟩ := OY.out.three
    refine bodyPost_ret (v := .agg #[.slice A2 n2 c2, .slice A3 n3 c3, .int .i64 gv2]) (by simp [results, Try.results30, go_sem, cR0, cR1, cR2]) rfl ?_
    exact ⟨_, rfl, by rw [doneR, HAC.out, if_pos rfl]; exact HX2.out.go (Kept.refl _) (fun k hk => .inl (List.mem_cons_of_mem _ (List.mem_cons_of_mem _ hk))), K⟩
  · have he' : (er != 0) = true := bne_t he
    go_wp2
    clear cX0 cX1 cX2 fX0 fX1 fX2 cA0 cA1 cA2 cA3 cA4 fA0 fA1 fA2 fA3 fA4 cR0 cR1 cR2 fR0 fR1 fR2 cY0 cY1 cY2 fY0 fY1 fY2
    replace OX : Hid (Own (((w2.setCell ⟨(w.heap.size + 3), 0, none⟩ (.slice A2 n2 c2)).setCell ⟨(w.heap.size + 3), 1, none⟩ (.slice A3 n3 c3)).setCell ⟨(w.heap.size + 3), 2, none⟩ (.int .i64 gv2)) w.heap.size 25 [.slice A n c, .slice A' m c', .int .i64 gv]) := Lib.hid (((OX.out.far (p := ⟨(w.heap.size + 3), 0, none⟩) (by first | omega | (simp; omega) | simp) (.slice A2 n2 c2)).far (p := ⟨(w.heap.size + 3), 1, none⟩) (by first | omega | (simp; omega) | simp) (.slice A3 n3 c3)).far (p := ⟨(w.heap.size + 3), 2, none⟩) (by first | omega | (simp; omega) | simp) (.int .i64 gv2))
    replace OA : Hid (Own (((w2.setCell ⟨(w.heap.size + 3), 0, none⟩ (.slice A2 n2 c2)).setCell ⟨(w.heap.size + 3), 1, none⟩ (.slice A3 n3 c3)).setCell ⟨(w.heap.size + 3), 2, none⟩ (.int .i64 gv2)) (w.heap.size + 1) 68 [.int .i64 ak, .int .i64 an, .int .i64 am, .string nm, .string tn]) := Lib.hid (((OA.out.far (p := ⟨(w.heap.size + 3), 0, none⟩) (by first | omega | (simp; omega) | simp) (.slice A2 n2 c2)).far (p := ⟨(w.heap.size + 3), 1, none⟩) (by first | omega | (simp; omega) | simp) (.slice A3 n3 c3)).far (p := ⟨(w.heap.size + 3), 2, none⟩) (by first | omega | (simp; omega) | simp) (.int .i64 gv2))
    replace OR : Hid (Own (((w2.setCell ⟨(w.heap.size + 3), 0, none⟩ (.slice A2 n2 c2)).setCell ⟨(w.heap.size + 3), 1, none⟩ (.slice A3 n3 c3)).setCell ⟨(w.heap.size + 3), 2, none⟩ (.int .i64 gv2)) (w.heap.size + 2) 25 [.slice none 0 0, .slice none 0 0, .int .i64 0]) := Lib.hid (((OR.out.far (p := ⟨(w.heap.size + 3), 0, none⟩) (by first | omega | (simp; omega) | simp) (.slice A2 n2 c2)).far (p := ⟨(w.heap.size + 3), 1, none⟩) (by first | omega | (simp; omega) | simp) (.slice A3 n3 c3)).far (p := ⟨(w.heap.size + 3), 2, none⟩) (by first | omega | (simp; omega) | simp) (.int .i64 gv2))
    replace OY : Hid (Own (((w2.setCell ⟨(w.heap.size + 3), 0, none⟩ (.slice A2 n2 c2)).setCell ⟨(w.heap.size + 3), 1, none⟩ (.slice A3 n3 c3)).setCell ⟨(w.heap.size + 3), 2, none⟩ (.int .i64 gv2)) (w.heap.size + 3) 25 [.slice A2 n2 c2, .slice A3 n3 c3, .int .i64 gv2]) := Lib.hid (((OY.out.set_ 0 (.slice A2 n2 c2)).set_ 1 (.slice A3 n3 c3)).set_ 2 (.int .i64 gv2))
    replace HX2 := Lib.hid (((HX2.out.put (p := ⟨(w.heap.size + 3), 0, none⟩) (by simp) (.slice A2 n2 c2)).put (p := ⟨(w.heap.size + 3), 1, none⟩) (by simp) (.slice A3 n3 c3)).put (p := ⟨(w.heap.size + 3), 2, none⟩) (by simp) (.int .i64 gv2))
    replace K := (((K.setCell (p := ⟨(w.heap.size + 3), 0, none⟩) (by first | exact Nat.le_refl _ | (simp only []; omega) | simp) (.slice A2 n2 c2)).setCell (p := ⟨(w.heap.size + 3), 1, none⟩) (by first | exact Nat.le_refl _ | (simp only []; omega) | simp) (.slice A3 n3 c3)).setCell (p := ⟨(w.heap.size + 3), 2, none⟩) (by first | exact Nat.le_refl _ | (simp only []; omega) | simp) (.int .i64 gv2))
    generalize (((w2.setCell ⟨(w.heap.size + 3), 0, none⟩ (.slice A2 n2 c2)).setCell ⟨(w.heap.size + 3), 1, none⟩ (.slice A3 n3 c3)).setCell ⟨(w.heap.size + 3), 2, none⟩ (.int .i64 gv2)) = w3 at *
    replace OX : Hid (Own (((w3.setCell ⟨(w.heap.size + 2), 0, none⟩ (.slice A n c)).setCell ⟨(w.heap.size + 2), 1, none⟩ (.slice A' m c')).setCell ⟨(w.heap.size + 2), 2, none⟩ (.int .i64 gv)) w.heap.size 25 [.slice A n c, .slice A' m c', .int .i64 gv]) := Lib.hid (((OX.out.far (p := ⟨(w.heap.size + 2), 0, none⟩) (by first | omega | (simp; omega) | simp) (.slice A n c)).far (p := ⟨(w.heap.size + 2), 1, none⟩) (by first | omega | (simp; omega) | simp) (.slice A' m c')).far (p := ⟨(w.heap.size + 2), 2, none⟩) (by first | omega | (simp; omega) | simp) (.int .i64 gv))
    replace OA : Hid (Own (((w3.setCell ⟨(w.heap.size + 2), 0, none⟩ (.slice A n c)).setCell ⟨(w.heap.size + 2), 1, none⟩ (.slice A' m c')).setCell ⟨(w.heap.size + 2), 2, none⟩ (.int .i64 gv)) (w.heap.size + 1) 68 [.int .i64 ak, .int .i64 an, .int .i64 am, .string nm, .string tn]) := Lib.hid (((OA.out.far (p := ⟨(w.heap.size + 2), 0, none⟩) (by first | omega | (simp; omega) | simp) (.slice A n c)).far (p := ⟨(w.heap.size + 2), 1, none⟩) (by first | omega | (simp; omega) | simp) (.slice A' m c')).far (p := ⟨(w.heap.size + 2), 2, none⟩) (by first | omega | (simp; omega) | simp) (.int .i64 gv))
    replace OR : Hid (Own (((w3.setCell ⟨(w.heap.size + 2), 0, none⟩ (.slice A n c)).setCell ⟨(w.heap.size + 2), 1, none⟩ (.slice A' m c')).setCell ⟨(w.heap.size + 2), 2, none⟩ (.int .i64 gv)) (w.heap.size + 2) 25 [.slice A n c, .slice A' m c', .int .i64 gv]) := Lib.hid (((OR.out.set_ 0 (.slice A n c)).set_ 1 (.slice A' m c')).set_ 2 (.int .i64 gv))
    replace OY : Hid (Own (((w3.setCell ⟨(w.heap.size + 2), 0, none⟩ (.slice A n c)).setCell ⟨(w.heap.size + 2), 1, none⟩ (.slice A' m c')).setCell ⟨(w.heap.size + 2), 2, none⟩ (.int .i64 gv)) (w.heap.size + 3) 25 [.slice A2 n2 c2, .slice A3 n3 c3, .int .i64 gv2]) := Lib.hid (((OY.out.far (p := ⟨(w.heap.size + 2), 0, none⟩) (by first | omega | (simp; omega) | simp) (.slice A n c)).far (p := ⟨(w.heap.size + 2), 1, none⟩) (by first | omega | (simp; omega) | simp) (.slice A' m c')).far (p := ⟨(w.heap.size + 2), 2, none⟩) (by first | omega | (simp; omega) | simp) (.int .i64 gv))
    replace HX2 := Lib.hid (((HX2.out.put (p := ⟨(w.heap.size + 2), 0, none⟩) (by simp) (.slice A n c)).put (p := ⟨(w.heap.size + 2), 1, none⟩) (by simp) (.slice A' m c')).put (p := ⟨(w.heap.size + 2), 2, none⟩) (by simp) (.int .i64 gv))
    replace K := (((K.setCell (p := ⟨(w.heap.size + 2), 0, none⟩) (by first | exact Nat.le_refl _ | (simp only []; omega) | simp) (.slice A n c)).setCell (p := ⟨(w.heap.size + 2), 1, none⟩) (by first | exact Nat.le_refl _ | (simp only []; omega) | simp) (.slice A' m c')).setCell (p := ⟨(w.heap.size + 2), 2, none⟩) (by first | exact Nat.le_refl _ | (simp only []; omega) | simp) (.int .i64 gv))
    generalize (((w3.setCell ⟨(w.heap.size + 2), 0, none⟩ (.slice A n c)).setCell ⟨(w.heap.size + 2), 1, none⟩ (.slice A' m c')).setCell ⟨(w.heap.size + 2), 2, none⟩ (.int .i64 gv)) = w4 at *
    obtain ⟨cX0, cX1, cX2, fX0, fX1, fX2⟩ := OX.out.three
    have cA0 := OA.out.cell? 0
    have fA0 := OA.out.frozen 0
    have cA1 := OA.out.cell? 1
    have fA1 := OA.out.frozen 1
    have cA2 := OA.out.cell? 2
    have fA2 := OA.out.frozen 2
    have cA3 := OA.out.cell? 3
    have fA3 := OA.out.frozen 3
    have cA4 := OA.out.cell? 4
    have fA4 := OA.out.frozen 4
    simp only [List.getElem?_cons_zero, List.getElem?_cons_succ] at cA0 cA1 cA2 cA3 cA4
    obtain ⟨cR0, cR1, cR2, fR0, fR1, fR2⟩ := OR.out.three
    obtain ⟨cY0, cY1, cY2, fY0, fY1, fY2⟩ := OY.out.three
    refine bodyPost_ret (v := .agg #[.slice A n c, .slice A' m c', .int .i64 gv]) (by simp [results, Try.results30, go_sem, cR0, cR1, cR2]) rfl ?_
    exact ⟨_, rfl, by rw [doneR, HAC.out, if_neg he]; exact HV.out.go K (Ext.refl _ _), K⟩

set_option maxRecDepth 100000 in
set_option maxHeartbeats 1000000 in
theorem done_1 (V : List Nat) (x : Ix) (v : Value) (ak an am : Int) (nm tn : ByteArray) (w : World) (hV : Old V w) (h : IxAt V w v x) (hok : IxOk x) (hns : nm.size ≤ maxLen) (hts : tn.size ≤ maxLen) (han : I64 an) (hkd : kindOf ak = 1) :
    Calls Try.prog 30 #[v, .agg #[.int .i64 ak, .int .i64 an, .int .i64 am, .string nm, .string tn]] w (IxRet1 V (doneR x 1 an am nm tn) w) := by
  have HV := Lib.hid h
  have HOV := Lib.hid hV
  have HOK := Lib.hid hok
  have HNS := Lib.hid hns
  have HTS := Lib.hid hts
  have HAN := Lib.hid han
  have HKD := Lib.hid hkd
  obtain ⟨A, c, A', c', rfl, hc1, hc2, hc3, hc4, hbx, hrow⟩ := (h.weak (U := []) (fun _ hk => by cases hk)).open_
  have HROW := Lib.hid hrow
  clear hbx hrow h hok hV hns hts han hkd
  unfold maxLen at hc2 hc4
  generalize hn : x.boxes.length = n at *
  generalize hm : x.subs.length = m at *
  generalize hg : x.given = gv at *
  have HN := Lib.hid hn
  have HM := Lib.hid hm
  have HG := Lib.hid hg
  clear hn hm hg
  have hkk := HKD.out
  unfold kindOf at hkk
  have tk0 : ((IntKind.u64.wrap ak).tmod 8 == 0) = false := beq_f (by omega)
  have tk1 : ((IntKind.u64.wrap ak).tmod 8 == 1) = true := beq_t hkk
  clear hkk
  go_enter Try.func30, Try.ntmps30
  go_wp2_with fail
  have OX := Lib.hid ((((Own.newAt w w.heap.size 25 [.slice A n c, .slice A' m c', .int .i64 gv] (by simp)).alloc (.cells #[.int .i64 ak, .int .i64 an, .int .i64 am, .string nm, .string tn] 68)).alloc (.cells #[.slice none 0 0, .slice none 0 0, .int .i64 0] 25)).alloc (.cells #[.slice A n c, .slice A' m c', .int .i64 gv] 25))
  have OA := Lib.hid (((Own.newAt (w.alloc (.cells #[.slice A n c, .slice A' m c', .int .i64 gv] 25)) (w.heap.size + 1) 68 [.int .i64 ak, .int .i64 an, .int .i64 am, .string nm, .string tn] (by simp)).alloc (.cells #[.slice none 0 0, .slice none 0 0, .int .i64 0] 25)).alloc (.cells #[.slice A n c, .slice A' m c', .int .i64 gv] 25))
  have OR := Lib.hid ((Own.newAt ((w.alloc (.cells #[.slice A n c, .slice A' m c', .int .i64 gv] 25)).alloc (.cells #[.int .i64 ak, .int .i64 an, .int .i64 am, .string nm, .string tn] 68)) (w.heap.size + 2) 25 [.slice none 0 0, .slice none 0 0, .int .i64 0] (by simp)).alloc (.cells #[.slice A n c, .slice A' m c', .int .i64 gv] 25))
  have OY := Lib.hid (Own.newAt (((w.alloc (.cells #[.slice A n c, .slice A' m c', .int .i64 gv] 25)).alloc (.cells #[.int .i64 ak, .int .i64 an, .int .i64 am, .string nm, .string tn] 68)).alloc (.cells #[.slice none 0 0, .slice none 0 0, .int .i64 0] 25)) (w.heap.size + 3) 25 [.slice A n c, .slice A' m c', .int .i64 gv] (by simp))
  have K := (((((Kept.refl w).alloc (.cells #[.slice A n c, .slice A' m c', .int .i64 gv] 25)).alloc (.cells #[.int .i64 ak, .int .i64 an, .int .i64 am, .string nm, .string tn] 68)).alloc (.cells #[.slice none 0 0, .slice none 0 0, .int .i64 0] 25)).alloc (.cells #[.slice A n c, .slice A' m c', .int .i64 gv] 25))
  generalize ((((w.alloc (.cells #[.slice A n c, .slice A' m c', .int .i64 gv] 25)).alloc (.cells #[.int .i64 ak, .int .i64 an, .int .i64 am, .string nm, .string tn] 68)).alloc (.cells #[.slice none 0 0, .slice none 0 0, .int .i64 0] 25)).alloc (.cells #[.slice A n c, .slice A' m c', .int .i64 gv] 25)) = w1 at *
  obtain ⟨cX0, cX1, cX2, fX0, fX1, fX2⟩ := OX.out.three
  have cA0 := OA.out.cell? 0
  have fA0 := OA.out.frozen 0
  have cA1 := OA.out.cell? 1
  have fA1 := OA.out.frozen 1
  have cA2 := OA.out.cell? 2
  have fA2 := OA.out.frozen 2
  have cA3 := OA.out.cell? 3
  have fA3 := OA.out.frozen 3
  have cA4 := OA.out.cell? 4
  have fA4 := OA.out.frozen 4
  simp only [List.getElem?_cons_zero, List.getElem?_cons_succ] at cA0 cA1 cA2 cA3 cA4
  obtain ⟨cR0, cR1, cR2, fR0, fR1, fR2⟩ := OR.out.three
  obtain ⟨cY0, cY1, cY2, fY0, fY1, fY2⟩ := OY.out.three
  have zX1 := OX.out.lt
  have zA1 := OA.out.lt
  have zR1 := OR.out.lt
  have zY1 := OY.out.lt
  have zK1 := K.size
  refine (delx_any ((w.heap.size + 2) :: (w.heap.size + 3) :: V) x _ nm _ (Old.cons OR.out.lt (Old.cons OY.out.lt (HOV.out.go K))) (HV.out.go K (Ext.cons (by omega) (Ext.cons (by omega) (Ext.refl _ _)))) HOK.out).mono ?_
  rintro e w2 ⟨v2, rfl, hx2, hk⟩
  clear cX0 cX1 cX2 fX0 fX1 fX2 cA0 cA1 cA2 cA3 cA4 fA0 fA1 fA2 fA3 fA4 cR0 cR1 cR2 fR0 fR1 fR2 cY0 cY1 cY2 fY0 fY1 fY2
  replace OX := Lib.hid (OX.out.kept hk)
  replace OA := Lib.hid (OA.out.kept hk)
  replace OR := Lib.hid (OR.out.kept hk)
  replace OY := Lib.hid (OY.out.kept hk)
  replace K := K.trans hk
  have HX2 := Lib.hid hx2
  obtain ⟨A2, c2, A3, c3, rfl⟩ := hx2.form
  clear hx2
  clear hk
  have HAC : Hid (actR x 1 an am nm tn = ((delR x nm).1, (delR x nm).2)) := rfl
  generalize (delR x nm).1 = y at *
  generalize (delR x nm).2 = er at *
  generalize y.boxes.length = n2 at HX2 ⊢
  generalize y.subs.length = n3 at HX2 ⊢
  generalize y.given = gv2 at HX2 ⊢
  obtain ⟨cX0, cX1, cX2, fX0, fX1, fX2⟩ := OX.out.three
  have cA0 := OA.out.cell? 0
  have fA0 := OA.out.frozen 0
  have cA1 := OA.out.cell? 1
  have fA1 := OA.out.frozen 1
  have cA2 := OA.out.cell? 2
  have fA2 := OA.out.frozen 2
  have cA3 := OA.out.cell? 3
  have fA3 := OA.out.frozen 3
  have cA4 := OA.out.cell? 4
  have fA4 := OA.out.frozen 4
  simp only [List.getElem?_cons_zero, List.getElem?_cons_succ] at cA0 cA1 cA2 cA3 cA4
  obtain ⟨cR0, cR1, cR2, fR0, fR1, fR2⟩ := OR.out.three
  obtain ⟨cY0, cY1, cY2, fY0, fY1, fY2⟩ := OY.out.three
  by_cases he : er = 0
  · subst he
    go_wp2
    clear cX0 cX1 cX2 fX0 fX1 fX2 cA0 cA1 cA2 cA3 cA4 fA0 fA1 fA2 fA3 fA4 cR0 cR1 cR2 fR0 fR1 fR2 cY0 cY1 cY2 fY0 fY1 fY2
    replace OX : Hid (Own (((w2.setCell ⟨(w.heap.size + 3), 0, none⟩ (.slice A2 n2 c2)).setCell ⟨(w.heap.size + 3), 1, none⟩ (.slice A3 n3 c3)).setCell ⟨(w.heap.size + 3), 2, none⟩ (.int .i64 gv2)) w.heap.size 25 [.slice A n c, .slice A' m c', .int .i64 gv]) := Lib.hid (((OX.out.far (p := ⟨(w.heap.size + 3), 0, none⟩) (by first | omega | (simp; omega) | simp) (.slice A2 n2 c2)).far (p := ⟨(w.heap.size + 3), 1, none⟩) (by first | omega | (simp; omega) | simp) (.slice A3 n3 c3)).far (p := ⟨(w.heap.size + 3), 2, none⟩) (by first | omega | (simp; omega) | simp) (.int .i64 gv2))
    replace OA : Hid (Own (((w2.setCell ⟨(w.heap.size + 3), 0, none⟩ (.slice A2 n2 c2)).setCell ⟨(w.heap.size + 3), 1, none⟩ (.slice A3 n3 c3)).setCell ⟨(w.heap.size + 3), 2, none⟩ (.int .i64 gv2)) (w.heap.size + 1) 68 [.int .i64 ak, .int .i64 an, .int .i64 am, .string nm, .string tn]) := Lib.hid (((OA.out.far (p := ⟨(w.heap.size + 3), 0, none⟩) (by first | omega | (simp; omega) | simp) (.slice A2 n2 c2)).far (p := ⟨(w.heap.size + 3), 1, none⟩) (by first | omega | (simp; omega) | simp) (.slice A3 n3 c3)).far (p := ⟨(w.heap.size + 3), 2, none⟩) (by first | omega | (simp; omega) | simp) (.int .i64 gv2))
    replace OR : Hid (Own (((w2.setCell ⟨(w.heap.size + 3), 0, none⟩ (.slice A2 n2 c2)).setCell ⟨(w.heap.size + 3), 1, none⟩ (.slice A3 n3 c3)).setCell ⟨(w.heap.size + 3), 2, none⟩ (.int .i64 gv2)) (w.heap.size + 2) 25 [.slice none 0 0, .slice none 0 0, .int .i64 0]) := Lib.hid (((OR.out.far (p := ⟨(w.heap.size + 3), 0, none⟩) (by first | omega | (simp; omega) | simp) (.slice A2 n2 c2)).far (p := ⟨(w.heap.size + 3), 1, none⟩) (by first | omega | (simp; omega) | simp) (.slice A3 n3 c3)).far (p := ⟨(w.heap.size + 3), 2, none⟩) (by first | omega | (simp; omega) | simp) (.int .i64 gv2))
    replace OY : Hid (Own (((w2.setCell ⟨(w.heap.size + 3), 0, none⟩ (.slice A2 n2 c2)).setCell ⟨(w.heap.size + 3), 1, none⟩ (.slice A3 n3 c3)).setCell ⟨(w.heap.size + 3), 2, none⟩ (.int .i64 gv2)) (w.heap.size + 3) 25 [.slice A2 n2 c2, .slice A3 n3 c3, .int .i64 gv2]) := Lib.hid (((OY.out.set_ 0 (.slice A2 n2 c2)).set_ 1 (.slice A3 n3 c3)).set_ 2 (.int .i64 gv2))
    replace HX2 := Lib.hid (((HX2.out.put (p := ⟨(w.heap.size + 3), 0, none⟩) (by simp) (.slice A2 n2 c2)).put (p := ⟨(w.heap.size + 3), 1, none⟩) (by simp) (.slice A3 n3 c3)).put (p := ⟨(w.heap.size + 3), 2, none⟩) (by simp) (.int .i64 gv2))
    replace K := (((K.setCell (p := ⟨(w.heap.size + 3), 0, none⟩) (by first | exact Nat.le_refl _ | (simp only []; omega) | simp) (.slice A2 n2 c2)).setCell (p := ⟨(w.heap.size + 3), 1, none⟩) (by first | exact Nat.le_refl _ | (simp only []; omega) | simp) (.slice A3 n3 c3)).setCell (p := ⟨(w.heap.size + 3), 2, none⟩) (by first | exact Nat.le_refl _ | (simp only []; omega) | simp) (.int .i64 gv2))
    generalize (((w2.setCell ⟨(w.heap.size + 3), 0, none⟩ (.slice A2 n2 c2)).setCell ⟨(w.heap.size + 3), 1, none⟩ (.slice A3 n3 c3)).setCell ⟨(w.heap.size + 3), 2, none⟩ (.int .i64 gv2)) = w3 at *
    replace OX : Hid (Own (((w3.setCell ⟨(w.heap.size + 2), 0, none⟩ (.slice A2 n2 c2)).setCell ⟨(w.heap.size + 2), 1, none⟩ (.slice A3 n3 c3)).setCell ⟨(w.heap.size + 2), 2, none⟩ (.int .i64 gv2)) w.heap.size 25 [.slice A n c, .slice A' m c', .int .i64 gv]) := Lib.hid (((OX.out.far (p := ⟨(w.heap.size + 2), 0, none⟩) (by first | omega | (simp; omega) | simp) (.slice A2 n2 c2)).far (p := ⟨(w.heap.size + 2), 1, none⟩) (by first | omega | (simp; omega) | simp) (.slice A3 n3 c3)).far (p := ⟨(w.heap.size + 2), 2, none⟩) (by first | omega | (simp; omega) | simp) (.int .i64 gv2))
    replace OA : Hid (Own (((w3.setCell ⟨(w.heap.size + 2), 0, none⟩ (.slice A2 n2 c2)).setCell ⟨(w.heap.size + 2), 1, none⟩ (.slice A3 n3 c3)).setCell ⟨(w.heap.size + 2), 2, none⟩ (.int .i64 gv2)) (w.heap.size + 1) 68 [.int .i64 ak, .int .i64 an, .int .i64 am, .string nm, .string tn]) := Lib.hid (((OA.out.far (p := ⟨(w.heap.size + 2), 0, none⟩) (by first | omega | (simp; omega) | simp) (.slice A2 n2 c2)).far (p := ⟨(w.heap.size + 2), 1, none⟩) (by first | omega | (simp; omega) | simp) (.slice A3 n3 c3)).far (p := ⟨(w.heap.size + 2), 2, none⟩) (by first | omega | (simp; omega) | simp) (.int .i64 gv2))
    replace OR : Hid (Own (((w3.setCell ⟨(w.heap.size + 2), 0, none⟩ (.slice A2 n2 c2)).setCell ⟨(w.heap.size + 2), 1, none⟩ (.slice A3 n3 c3)).setCell ⟨(w.heap.size + 2), 2, none⟩ (.int .i64 gv2)) (w.heap.size + 2) 25 [.slice A2 n2 c2, .slice A3 n3 c3, .int .i64 gv2]) := Lib.hid (((OR.out.set_ 0 (.slice A2 n2 c2)).set_ 1 (.slice A3 n3 c3)).set_ 2 (.int .i64 gv2))
    replace OY : Hid (Own (((w3.setCell ⟨(w.heap.size + 2), 0, none⟩ (.slice A2 n2 c2)).setCell ⟨(w.heap.size + 2), 1, none⟩ (.slice A3 n3 c3)).setCell ⟨(w.heap.size + 2), 2, none⟩ (.int .i64 gv2)) (w.heap.size + 3) 25 [.slice A2 n2 c2, .slice A3 n3 c3, .int .i64 gv2]) := Lib.hid (((OY.out.far (p := ⟨(w.heap.size + 2), 0, none⟩) (by first | omega | (simp; omega) | simp) (.slice A2 n2 c2)).far (p := ⟨(w.heap.size + 2), 1, none⟩) (by first | omega | (simp; omega) | simp) (.slice A3 n3 c3)).far (p := ⟨(w.heap.size + 2), 2, none⟩) (by first | omega | (simp; omega) | simp) (.int .i64 gv2))
    replace HX2 := Lib.hid (((HX2.out.put (p := ⟨(w.heap.size + 2), 0, none⟩) (by simp) (.slice A2 n2 c2)).put (p := ⟨(w.heap.size + 2), 1, none⟩) (by simp) (.slice A3 n3 c3)).put (p := ⟨(w.heap.size + 2), 2, none⟩) (by simp) (.int .i64 gv2))
    replace K := (((K.setCell (p := ⟨(w.heap.size + 2), 0, none⟩) (by first | exact Nat.le_refl _ | (simp only []; omega) | simp) (.slice A2 n2 c2)).setCell (p := ⟨(w.heap.size + 2), 1, none⟩) (by first | exact Nat.le_refl _ | (simp only []; omega) | simp) (.slice A3 n3 c3)).setCell (p := ⟨(w.heap.size + 2), 2, none⟩) (by first | exact Nat.le_refl _ | (simp only []; omega) | simp) (.int .i64 gv2))
    generalize (((w3.setCell ⟨(w.heap.size + 2), 0, none⟩ (.slice A2 n2 c2)).setCell ⟨(w.heap.size + 2), 1, none⟩ (.slice A3 n3 c3)).setCell ⟨(w.heap.size + 2), 2, none⟩ (.int .i64 gv2)) = w4 at *
    obtain ⟨cX0, cX1, cX2, fX0, fX1, fX2⟩ := OX.out.three
    have cA0 := OA.out.cell? 0
    have fA0 := OA.out.frozen 0
    have cA1 := OA.out.cell? 1
    have fA1 := OA.out.frozen 1
    have cA2 := OA.out.cell? 2
    have fA2 := OA.out.frozen 2
    have cA3 := OA.out.cell? 3
    have fA3 := OA.out.frozen 3
    have cA4 := OA.out.cell? 4
    have fA4 := OA.out.frozen 4
    simp only [List.getElem?_cons_zero, List.getElem?_cons_succ] at cA0 cA1 cA2 cA3 cA4
    obtain ⟨cR0, cR1, cR2, fR0, fR1, fR2⟩ := OR.out.three
    obtain ⟨cY0, cY1, cY2, fY0, fY1, fY2⟩ := OY.out.three
    refine bodyPost_ret (v := .agg #[.slice A2 n2 c2, .slice A3 n3 c3, .int .i64 gv2]) (by simp [results, Try.results30, go_sem, cR0, cR1, cR2]) rfl ?_
    exact ⟨_, rfl, by rw [doneR, HAC.out, if_pos rfl]; exact HX2.out.go (Kept.refl _) (fun k hk => .inl (List.mem_cons_of_mem _ (List.mem_cons_of_mem _ hk))), K⟩
  · have he' : (er != 0) = true := bne_t he
    go_wp2
    clear cX0 cX1 cX2 fX0 fX1 fX2 cA0 cA1 cA2 cA3 cA4 fA0 fA1 fA2 fA3 fA4 cR0 cR1 cR2 fR0 fR1 fR2 cY0 cY1 cY2 fY0 fY1 fY2
    replace OX : Hid (Own (((w2.setCell ⟨(w.heap.size + 3), 0, none⟩ (.slice A2 n2 c2)).setCell ⟨(w.heap.size + 3), 1, none⟩ (.slice A3 n3 c3)).setCell ⟨(w.heap.size + 3), 2, none⟩ (.int .i64 gv2)) w.heap.size 25 [.slice A n c, .slice A' m c', .int .i64 gv]) := Lib.hid (((OX.out.far (p := ⟨(w.heap.size + 3), 0, none⟩) (by first | omega | (simp; omega) | simp) (.slice A2 n2 c2)).far (p := ⟨(w.heap.size + 3), 1, none⟩) (by first | omega | (simp; omega) | simp) (.slice A3 n3 c3)).far (p := ⟨(w.heap.size + 3), 2, none⟩) (by first | omega | (simp; omega) | simp) (.int .i64 gv2))
    replace OA : Hid (Own (((w2.setCell ⟨(w.heap.size + 3), 0, none⟩ (.slice A2 n2 c2)).setCell ⟨(w.heap.size + 3), 1, none⟩ (.slice A3 n3 c3)).setCell ⟨(w.heap.size + 3), 2, none⟩ (.int .i64 gv2)) (w.heap.size + 1) 68 [.int .i64 ak, .int .i64 an, .int .i64 am, .string nm, .string tn]) := Lib.hid (((OA.out.far (p := ⟨(w.heap.size + 3), 0, none⟩) (by first | omega | (simp; omega) | simp) (.slice A2 n2 c2)).far (p := ⟨(w.heap.size + 3), 1, none⟩) (by first | omega | (simp; omega) | simp) (.slice A3 n3 c3)).far (p := ⟨(w.heap.size + 3), 2, none⟩) (by first | omega | (simp; omega) | simp) (.int .i64 gv2))
    replace OR : Hid (Own (((w2.setCell ⟨(w.heap.size + 3), 0, none⟩ (.slice A2 n2 c2)).setCell ⟨(w.heap.size + 3), 1, none⟩ (.slice A3 n3 c3)).setCell ⟨(w.heap.size + 3), 2, none⟩ (.int .i64 gv2)) (w.heap.size + 2) 25 [.slice none 0 0, .slice none 0 0, .int .i64 0]) := Lib.hid (((OR.out.far (p := ⟨(w.heap.size + 3), 0, none⟩) (by first | omega | (simp; omega) | simp) (.slice A2 n2 c2)).far (p := ⟨(w.heap.size + 3), 1, none⟩) (by first | omega | (simp; omega) | simp) (.slice A3 n3 c3)).far (p := ⟨(w.heap.size + 3), 2, none⟩) (by first | omega | (simp; omega) | simp) (.int .i64 gv2))
    replace OY : Hid (Own (((w2.setCell ⟨(w.heap.size + 3), 0, none⟩ (.slice A2 n2 c2)).setCell ⟨(w.heap.size + 3), 1, none⟩ (.slice A3 n3 c3)).setCell ⟨(w.heap.size + 3), 2, none⟩ (.int .i64 gv2)) (w.heap.size + 3) 25 [.slice A2 n2 c2, .slice A3 n3 c3, .int .i64 gv2]) := Lib.hid (((OY.out.set_ 0 (.slice A2 n2 c2)).set_ 1 (.slice A3 n3 c3)).set_ 2 (.int .i64 gv2))
    replace HX2 := Lib.hid (((HX2.out.put (p := ⟨(w.heap.size + 3), 0, none⟩) (by simp) (.slice A2 n2 c2)).put (p := ⟨(w.heap.size + 3), 1, none⟩) (by simp) (.slice A3 n3 c3)).put (p := ⟨(w.heap.size + 3), 2, none⟩) (by simp) (.int .i64 gv2))
    replace K := (((K.setCell (p := ⟨(w.heap.size + 3), 0, none⟩) (by first | exact Nat.le_refl _ | (simp only []; omega) | simp) (.slice A2 n2 c2)).setCell (p := ⟨(w.heap.size + 3), 1, none⟩) (by first | exact Nat.le_refl _ | (simp only []; omega) | simp) (.slice A3 n3 c3)).setCell (p := ⟨(w.heap.size + 3), 2, none⟩) (by first | exact Nat.le_refl _ | (simp only []; omega) | simp) (.int .i64 gv2))
    generalize (((w2.setCell ⟨(w.heap.size + 3), 0, none⟩ (.slice A2 n2 c2)).setCell ⟨(w.heap.size + 3), 1, none⟩ (.slice A3 n3 c3)).setCell ⟨(w.heap.size + 3), 2, none⟩ (.int .i64 gv2)) = w3 at *
    replace OX : Hid (Own (((w3.setCell ⟨(w.heap.size + 2), 0, none⟩ (.slice A n c)).setCell ⟨(w.heap.size + 2), 1, none⟩ (.slice A' m c')).setCell ⟨(w.heap.size + 2), 2, none⟩ (.int .i64 gv)) w.heap.size 25 [.slice A n c, .slice A' m c', .int .i64 gv]) := Lib.hid (((OX.out.far (p := ⟨(w.heap.size + 2), 0, none⟩) (by first | omega | (simp; omega) | simp) (.slice A n c)).far (p := ⟨(w.heap.size + 2), 1, none⟩) (by first | omega | (simp; omega) | simp) (.slice A' m c')).far (p := ⟨(w.heap.size + 2), 2, none⟩) (by first | omega | (simp; omega) | simp) (.int .i64 gv))
    replace OA : Hid (Own (((w3.setCell ⟨(w.heap.size + 2), 0, none⟩ (.slice A n c)).setCell ⟨(w.heap.size + 2), 1, none⟩ (.slice A' m c')).setCell ⟨(w.heap.size + 2), 2, none⟩ (.int .i64 gv)) (w.heap.size + 1) 68 [.int .i64 ak, .int .i64 an, .int .i64 am, .string nm, .string tn]) := Lib.hid (((OA.out.far (p := ⟨(w.heap.size + 2), 0, none⟩) (by first | omega | (simp; omega) | simp) (.slice A n c)).far (p := ⟨(w.heap.size + 2), 1, none⟩) (by first | omega | (simp; omega) | simp) (.slice A' m c')).far (p := ⟨(w.heap.size + 2), 2, none⟩) (by first | omega | (simp; omega) | simp) (.int .i64 gv))
    replace OR : Hid (Own (((w3.setCell ⟨(w.heap.size + 2), 0, none⟩ (.slice A n c)).setCell ⟨(w.heap.size + 2), 1, none⟩ (.slice A' m c')).setCell ⟨(w.heap.size + 2), 2, none⟩ (.int .i64 gv)) (w.heap.size + 2) 25 [.slice A n c, .slice A' m c', .int .i64 gv]) := Lib.hid (((OR.out.set_ 0 (.slice A n c)).set_ 1 (.slice A' m c')).set_ 2 (.int .i64 gv))
    replace OY : Hid (Own (((w3.setCell ⟨(w.heap.size + 2), 0, none⟩ (.slice A n c)).setCell ⟨(w.heap.size + 2), 1, none⟩ (.slice A' m c')).setCell ⟨(w.heap.size + 2), 2, none⟩ (.int .i64 gv)) (w.heap.size + 3) 25 [.slice A2 n2 c2, .slice A3 n3 c3, .int .i64 gv2]) := Lib.hid (((OY.out.far (p := ⟨(w.heap.size + 2), 0, none⟩) (by first | omega | (simp; omega) | simp) (.slice A n c)).far (p := ⟨(w.heap.size + 2), 1, none⟩) (by first | omega | (simp; omega) | simp) (.slice A' m c')).far (p := ⟨(w.heap.size + 2), 2, none⟩) (by first | omega | (simp; omega) | simp) (.int .i64 gv))
    replace HX2 := Lib.hid (((HX2.out.put (p := ⟨(w.heap.size + 2), 0, none⟩) (by simp) (.slice A n c)).put (p := ⟨(w.heap.size + 2), 1, none⟩) (by simp) (.slice A' m c')).put (p := ⟨(w.heap.size + 2), 2, none⟩) (by simp) (.int .i64 gv))
    replace K := (((K.setCell (p := ⟨(w.heap.size + 2), 0, none⟩) (by first | exact Nat.le_refl _ | (simp only []; omega) | simp) (.slice A n c)).setCell (p := ⟨(w.heap.size + 2), 1, none⟩) (by first | exact Nat.le_refl _ | (simp only []; omega) | simp) (.slice A' m c')).setCell (p := ⟨(w.heap.size + 2), 2, none⟩) (by first | exact Nat.le_refl _ | (simp only []; omega) | simp) (.int .i64 gv))
    generalize (((w3.setCell ⟨(w.heap.size + 2), 0, none⟩ (.slice A n c)).setCell ⟨(w.heap.size + 2), 1, none⟩ (.slice A' m c')).setCell ⟨(w.heap.size + 2), 2, none⟩ (.int .i64 gv)) = w4 at *
    obtain ⟨cX0, cX1, cX2, fX0, fX1, fX2⟩ := OX.out.three
    have cA0 := OA.out.cell? 0
    have fA0 := OA.out.frozen 0
    have cA1 := OA.out.cell? 1
    have fA1 := OA.out.frozen 1
    have cA2 := OA.out.cell? 2
    have fA2 := OA.out.frozen 2
    have cA3 := OA.out.cell? 3
    have fA3 := OA.out.frozen 3
    have cA4 := OA.out.cell? 4
    have fA4 := OA.out.frozen 4
    simp only [List.getElem?_cons_zero, List.getElem?_cons_succ] at cA0 cA1 cA2 cA3 cA4
    obtain ⟨cR0, cR1, cR2, fR0, fR1, fR2⟩ := OR.out.three
    obtain ⟨cY0, cY1, cY2, fY0, fY1, fY2⟩ := OY.out.three
    refine bodyPost_ret (v := .agg #[.slice A n c, .slice A' m c', .int .i64 gv]) (by simp [results, Try.results30, go_sem, cR0, cR1, cR2]) rfl ?_
    exact ⟨_, rfl, by rw [doneR, HAC.out, if_neg he]; exact HV.out.go K (Ext.refl _ _), K⟩

set_option maxRecDepth 100000 in
set_option maxHeartbeats 1000000 in
theorem done_2 (V : List Nat) (x : Ix) (v : Value) (ak an am : Int) (nm tn : ByteArray) (w : World) (hV : Old V w) (h : IxAt V w v x) (hok : IxOk x) (hns : nm.size ≤ maxLen) (hts : tn.size ≤ maxLen) (han : I64 an) (hkd : kindOf ak = 2) :
    Calls Try.prog 30 #[v, .agg #[.int .i64 ak, .int .i64 an, .int .i64 am, .string nm, .string tn]] w (IxRet1 V (doneR x 2 an am nm tn) w) := by
  have HV := Lib.hid h
  have HOV := Lib.hid hV
  have HOK := Lib.hid hok
  have HNS := Lib.hid hns
  have HTS := Lib.hid hts
  have HAN := Lib.hid han
  have HKD := Lib.hid hkd
  obtain ⟨A, c, A', c', rfl, hc1, hc2, hc3, hc4, hbx, hrow⟩ := (h.weak (U := []) (fun _ hk => by cases hk)).open_
  have HROW := Lib.hid hrow
  clear hbx hrow h hok hV hns hts han hkd
  unfold maxLen at hc2 hc4
  generalize hn : x.boxes.length = n at *
  generalize hm : x.subs.length = m at *
  generalize hg : x.given = gv at *
  have HN := Lib.hid hn
  have HM := Lib.hid hm
  have HG := Lib.hid hg
  clear hn hm hg
  have hkk := HKD.out
  unfold kindOf at hkk
  have tk0 : ((IntKind.u64.wrap ak).tmod 8 == 0) = false := beq_f (by omega)
  have tk1 : ((IntKind.u64.wrap ak).tmod 8 == 1) = false := beq_f (by omega)
  have tk2 : ((IntKind.u64.wrap ak).tmod 8 == 2) = true := beq_t hkk
  clear hkk
  go_enter Try.func30, Try.ntmps30
  go_wp2_with fail
  have OX := Lib.hid ((((Own.newAt w w.heap.size 25 [.slice A n c, .slice A' m c', .int .i64 gv] (by simp)).alloc (.cells #[.int .i64 ak, .int .i64 an, .int .i64 am, .string nm, .string tn] 68)).alloc (.cells #[.slice none 0 0, .slice none 0 0, .int .i64 0] 25)).alloc (.cells #[.slice A n c, .slice A' m c', .int .i64 gv] 25))
  have OA := Lib.hid (((Own.newAt (w.alloc (.cells #[.slice A n c, .slice A' m c', .int .i64 gv] 25)) (w.heap.size + 1) 68 [.int .i64 ak, .int .i64 an, .int .i64 am, .string nm, .string tn] (by simp)).alloc (.cells #[.slice none 0 0, .slice none 0 0, .int .i64 0] 25)).alloc (.cells #[.slice A n c, .slice A' m c', .int .i64 gv] 25))
  have OR := Lib.hid ((Own.newAt ((w.alloc (.cells #[.slice A n c, .slice A' m c', .int .i64 gv] 25)).alloc (.cells #[.int .i64 ak, .int .i64 an, .int .i64 am, .string nm, .string tn] 68)) (w.heap.size + 2) 25 [.slice none 0 0, .slice none 0 0, .int .i64 0] (by simp)).alloc (.cells #[.slice A n c, .slice A' m c', .int .i64 gv] 25))
  have OY := Lib.hid (Own.newAt (((w.alloc (.cells #[.slice A n c, .slice A' m c', .int .i64 gv] 25)).alloc (.cells #[.int .i64 ak, .int .i64 an, .int .i64 am, .string nm, .string tn] 68)).alloc (.cells #[.slice none 0 0, .slice none 0 0, .int .i64 0] 25)) (w.heap.size + 3) 25 [.slice A n c, .slice A' m c', .int .i64 gv] (by simp))
  have K := (((((Kept.refl w).alloc (.cells #[.slice A n c, .slice A' m c', .int .i64 gv] 25)).alloc (.cells #[.int .i64 ak, .int .i64 an, .int .i64 am, .string nm, .string tn] 68)).alloc (.cells #[.slice none 0 0, .slice none 0 0, .int .i64 0] 25)).alloc (.cells #[.slice A n c, .slice A' m c', .int .i64 gv] 25))
  generalize ((((w.alloc (.cells #[.slice A n c, .slice A' m c', .int .i64 gv] 25)).alloc (.cells #[.int .i64 ak, .int .i64 an, .int .i64 am, .string nm, .string tn] 68)).alloc (.cells #[.slice none 0 0, .slice none 0 0, .int .i64 0] 25)).alloc (.cells #[.slice A n c, .slice A' m c', .int .i64 gv] 25)) = w1 at *
  obtain ⟨cX0, cX1, cX2, fX0, fX1, fX2⟩ := OX.out.three
  have cA0 := OA.out.cell? 0
  have fA0 := OA.out.frozen 0
  have cA1 := OA.out.cell? 1
  have fA1 := OA.out.frozen 1
  have cA2 := OA.out.cell? 2
  have fA2 := OA.out.frozen 2
  have cA3 := OA.out.cell? 3
  have fA3 := OA.out.frozen 3
  have cA4 := OA.out.cell? 4
  have fA4 := OA.out.frozen 4
  simp only [List.getElem?_cons_zero, List.getElem?_cons_succ] at cA0 cA1 cA2 cA3 cA4
  obtain ⟨cR0, cR1, cR2, fR0, fR1, fR2⟩ := OR.out.three
  obtain ⟨cY0, cY1, cY2, fY0, fY1, fY2⟩ := OY.out.three
  have zX1 := OX.out.lt
  have zA1 := OA.out.lt
  have zR1 := OR.out.lt
  have zY1 := OY.out.lt
  have zK1 := K.size
  refine (ren_any ((w.heap.size + 2) :: (w.heap.size + 3) :: V) x _ nm tn _ (Old.cons OR.out.lt (Old.cons OY.out.lt (HOV.out.go K))) (HV.out.go K (Ext.cons (by omega) (Ext.cons (by omega) (Ext.refl _ _)))) HOK.out HTS.out).mono ?_
  rintro e w2 ⟨v2, rfl, hx2, hk⟩
  clear cX0 cX1 cX2 fX0 fX1 fX2 cA0 cA1 cA2 cA3 cA4 fA0 fA1 fA2 fA3 fA4 cR0 cR1 cR2 fR0 fR1 fR2 cY0 cY1 cY2 fY0 fY1 fY2
  replace OX := Lib.hid (OX.out.kept hk)
  replace OA := Lib.hid (OA.out.kept hk)
  replace OR := Lib.hid (OR.out.kept hk)
  replace OY := Lib.hid (OY.out.kept hk)
  replace K := K.trans hk
  have HX2 := Lib.hid hx2
  obtain ⟨A2, c2, A3, c3, rfl⟩ := hx2.form
  clear hx2
  clear hk
  have HAC : Hid (actR x 2 an am nm tn = ((renR x nm tn).1, (renR x nm tn).2)) := rfl
  generalize (renR x nm tn).1 = y at *
  generalize (renR x nm tn).2 = er at *
  generalize y.boxes.length = n2 at HX2 ⊢
  generalize y.subs.length = n3 at HX2 ⊢
  generalize y.given = gv2 at HX2 ⊢
  obtain ⟨cX0, cX1, cX2, fX0, fX1, fX2⟩ := OX.out.three
  have cA0 := OA.out.cell? 0
  have fA0 := OA.out.frozen 0
  have cA1 := OA.out.cell? 1
  have fA1 := OA.out.frozen 1
  have cA2 := OA.out.cell? 2
  have fA2 := OA.out.frozen 2
  have cA3 := OA.out.cell? 3
  have fA3 := OA.out.frozen 3
  have cA4 := OA.out.cell? 4
  have fA4 := OA.out.frozen 4
  simp only [List.getElem?_cons_zero, List.getElem?_cons_succ] at cA0 cA1 cA2 cA3 cA4
  obtain ⟨cR0, cR1, cR2, fR0, fR1, fR2⟩ := OR.out.three
  obtain ⟨cY0, cY1, cY2, fY0, fY1, fY2⟩ := OY.out.three
  by_cases he : er = 0
  · subst he
    go_wp2
    clear cX0 cX1 cX2 fX0 fX1 fX2 cA0 cA1 cA2 cA3 cA4 fA0 fA1 fA2 fA3 fA4 cR0 cR1 cR2 fR0 fR1 fR2 cY0 cY1 cY2 fY0 fY1 fY2
    replace OX : Hid (Own (((w2.setCell ⟨(w.heap.size + 3), 0, none⟩ (.slice A2 n2 c2)).setCell ⟨(w.heap.size + 3), 1, none⟩ (.slice A3 n3 c3)).setCell ⟨(w.heap.size + 3), 2, none⟩ (.int .i64 gv2)) w.heap.size 25 [.slice A n c, .slice A' m c', .int .i64 gv]) := Lib.hid (((OX.out.far (p := ⟨(w.heap.size + 3), 0, none⟩) (by first | omega | (simp; omega) | simp) (.slice A2 n2 c2)).far (p := ⟨(w.heap.size + 3), 1, none⟩) (by first | omega | (simp; omega) | simp) (.slice A3 n3 c3)).far (p := ⟨(w.heap.size + 3), 2, none⟩) (by first | omega | (simp; omega) | simp) (.int .i64 gv2))
    replace OA : Hid (Own (((w2.setCell ⟨(w.heap.size + 3), 0, none⟩ (.slice A2 n2 c2)).setCell ⟨(w.heap.size + 3), 1, none⟩ (.slice A3 n3 c3)).setCell ⟨(w.heap.size + 3), 2, none⟩ (.int .i64 gv2)) (w.heap.size + 1) 68 [.int .i64 ak, .int .i64 an, .int .i64 am, .string nm, .string tn]) := Lib.hid (((OA.out.far (p := ⟨(w.heap.size + 3), 0, none⟩) (by first | omega | (simp; omega) | simp) (.slice A2 n2 c2)).far (p := ⟨(w.heap.size + 3), 1, none⟩) (by first | omega | (simp; omega) | simp) (.slice A3 n3 c3)).far (p := ⟨(w.heap.size + 3), 2, none⟩) (by first | omega | (simp; omega) | simp) (.int .i64 gv2))
    replace OR : Hid (Own (((w2.setCell ⟨(w.heap.size + 3), 0, none⟩ (.slice A2 n2 c2)).setCell ⟨(w.heap.size + 3), 1, none⟩ (.slice A3 n3 c3)).setCell ⟨(w.heap.size + 3), 2, none⟩ (.int .i64 gv2)) (w.heap.size + 2) 25 [.slice none 0 0, .slice none 0 0, .int .i64 0]) := Lib.hid (((OR.out.far (p := ⟨(w.heap.size + 3), 0, none⟩) (by first | omega | (simp; omega) | simp) (.slice A2 n2 c2)).far (p := ⟨(w.heap.size + 3), 1, none⟩) (by first | omega | (simp; omega) | simp) (.slice A3 n3 c3)).far (p := ⟨(w.heap.size + 3), 2, none⟩) (by first | omega | (simp; omega) | simp) (.int .i64 gv2))
    replace OY : Hid (Own (((w2.setCell ⟨(w.heap.size + 3), 0, none⟩ (.slice A2 n2 c2)).setCell ⟨(w.heap.size + 3), 1, none⟩ (.slice A3 n3 c3)).setCell ⟨(w.heap.size + 3), 2, none⟩ (.int .i64 gv2)) (w.heap.size + 3) 25 [.slice A2 n2 c2, .slice A3 n3 c3, .int .i64 gv2]) := Lib.hid (((OY.out.set_ 0 (.slice A2 n2 c2)).set_ 1 (.slice A3 n3 c3)).set_ 2 (.int .i64 gv2))
    replace HX2 := Lib.hid (((HX2.out.put (p := ⟨(w.heap.size + 3), 0, none⟩) (by simp) (.slice A2 n2 c2)).put (p := ⟨(w.heap.size + 3), 1, none⟩) (by simp) (.slice A3 n3 c3)).put (p := ⟨(w.heap.size + 3), 2, none⟩) (by simp) (.int .i64 gv2))
    replace K := (((K.setCell (p := ⟨(w.heap.size + 3), 0, none⟩) (by first | exact Nat.le_refl _ | (simp only []; omega) | simp) (.slice A2 n2 c2)).setCell (p := ⟨(w.heap.size + 3), 1, none⟩) (by first | exact Nat.le_refl _ | (simp only []; omega) | simp) (.slice A3 n3 c3)).setCell (p := ⟨(w.heap.size + 3), 2, none⟩) (by first | exact Nat.le_refl _ | (simp only []; omega) | simp) (.int .i64 gv2))
    generalize (((w2.setCell ⟨(w.heap.size + 3), 0, none⟩ (.slice A2 n2 c2)).setCell ⟨(w.heap.size + 3), 1, none⟩ (.slice A3 n3 c3)).setCell ⟨(w.heap.size + 3), 2, none⟩ (.int .i64 gv2)) = w3 at *
    replace OX : Hid (Own (((w3.setCell ⟨(w.heap.size + 2), 0, none⟩ (.slice A2 n2 c2)).setCell ⟨(w.heap.size + 2), 1, none⟩ (.slice A3 n3 c3)).setCell ⟨(w.heap.size + 2), 2, none⟩ (.int .i64 gv2)) w.heap.size 25 [.slice A n c, .slice A' m c', .int .i64 gv]) := Lib.hid (((OX.out.far (p := ⟨(w.heap.size + 2), 0, none⟩) (by first | omega | (simp; omega) | simp) (.slice A2 n2 c2)).far (p := ⟨(w.heap.size + 2), 1, none⟩) (by first | omega | (simp; omega) | simp) (.slice A3 n3 c3)).far (p := ⟨(w.heap.size + 2), 2, none⟩) (by first | omega | (simp; omega) | simp) (.int .i64 gv2))
    replace OA : Hid (Own (((w3.setCell ⟨(w.heap.size + 2), 0, none⟩ (.slice A2 n2 c2)).setCell ⟨(w.heap.size + 2), 1, none⟩ (.slice A3 n3 c3)).setCell ⟨(w.heap.size + 2), 2, none⟩ (.int .i64 gv2)) (w.heap.size + 1) 68 [.int .i64 ak, .int .i64 an, .int .i64 am, .string nm, .string tn]) := Lib.hid (((OA.out.far (p := ⟨(w.heap.size + 2), 0, none⟩) (by first | omega | (simp; omega) | simp) (.slice A2 n2 c2)).far (p := ⟨(w.heap.size + 2), 1, none⟩) (by first | omega | (simp; omega) | simp) (.slice A3 n3 c3)).far (p := ⟨(w.heap.size + 2), 2, none⟩) (by first | omega | (simp; omega) | simp) (.int .i64 gv2))
    replace OR : Hid (Own (((w3.setCell ⟨(w.heap.size + 2), 0, none⟩ (.slice A2 n2 c2)).setCell ⟨(w.heap.size + 2), 1, none⟩ (.slice A3 n3 c3)).setCell ⟨(w.heap.size + 2), 2, none⟩ (.int .i64 gv2)) (w.heap.size + 2) 25 [.slice A2 n2 c2, .slice A3 n3 c3, .int .i64 gv2]) := Lib.hid (((OR.out.set_ 0 (.slice A2 n2 c2)).set_ 1 (.slice A3 n3 c3)).set_ 2 (.int .i64 gv2))
    replace OY : Hid (Own (((w3.setCell ⟨(w.heap.size + 2), 0, none⟩ (.slice A2 n2 c2)).setCell ⟨(w.heap.size + 2), 1, none⟩ (.slice A3 n3 c3)).setCell ⟨(w.heap.size + 2), 2, none⟩ (.int .i64 gv2)) (w.heap.size + 3) 25 [.slice A2 n2 c2, .slice A3 n3 c3, .int .i64 gv2]) := Lib.hid (((OY.out.far (p := ⟨(w.heap.size + 2), 0, none⟩) (by first | omega | (simp; omega) | simp) (.slice A2 n2 c2)).far (p := ⟨(w.heap.size + 2), 1, none⟩) (by first | omega | (simp; omega) | simp) (.slice A3 n3 c3)).far (p := ⟨(w.heap.size + 2), 2, none⟩) (by first | omega | (simp; omega) | simp) (.int .i64 gv2))
    replace HX2 := Lib.hid (((HX2.out.put (p := ⟨(w.heap.size + 2), 0, none⟩) (by simp) (.slice A2 n2 c2)).put (p := ⟨(w.heap.size + 2), 1, none⟩) (by simp) (.slice A3 n3 c3)).put (p := ⟨(w.heap.size + 2), 2, none⟩) (by simp) (.int .i64 gv2))
    replace K := (((K.setCell (p := ⟨(w.heap.size + 2), 0, none⟩) (by first | exact Nat.le_refl _ | (simp only []; omega) | simp) (.slice A2 n2 c2)).setCell (p := ⟨(w.heap.size + 2), 1, none⟩) (by first | exact Nat.le_refl _ | (simp only []; omega) | simp) (.slice A3 n3 c3)).setCell (p := ⟨(w.heap.size + 2), 2, none⟩) (by first | exact Nat.le_refl _ | (simp only []; omega) | simp) (.int .i64 gv2))
    generalize (((w3.setCell ⟨(w.heap.size + 2), 0, none⟩ (.slice A2 n2 c2)).setCell ⟨(w.heap.size + 2), 1, none⟩ (.slice A3 n3 c3)).setCell ⟨(w.heap.size + 2), 2, none⟩ (.int .i64 gv2)) = w4 at *
    obtain ⟨cX0, cX1, cX2, fX0, fX1, fX2⟩ := OX.out.three
    have cA0 := OA.out.cell? 0
    have fA0 := OA.out.frozen 0
    have cA1 := OA.out.cell? 1
    have fA1 := OA.out.frozen 1
    have cA2 := OA.out.cell? 2
    have fA2 := OA.out.frozen 2
    have cA3 := OA.out.cell? 3
    have fA3 := OA.out.frozen 3
    have cA4 := OA.out.cell? 4
    have fA4 := OA.out.frozen 4
    simp only [List.getElem?_cons_zero, List.getElem?_cons_succ] at cA0 cA1 cA2 cA3 cA4
    obtain ⟨cR0, cR1, cR2, fR0, fR1, fR2⟩ := OR.out.three
    obtain ⟨cY0, cY1, cY2, fY0, fY1, fY2⟩ := OY.out.three
    refine bodyPost_ret (v := .agg #[.slice A2 n2 c2, .slice A3 n3 c3, .int .i64 gv2]) (by simp [results, Try.results30, go_sem, cR0, cR1, cR2]) rfl ?_
    exact ⟨_, rfl, by rw [doneR, HAC.out, if_pos rfl]; exact HX2.out.go (Kept.refl _) (fun k hk => .inl (List.mem_cons_of_mem _ (List.mem_cons_of_mem _ hk))), K⟩
  · have he' : (er != 0) = true := bne_t he
    go_wp2
    clear cX0 cX1 cX2 fX0 fX1 fX2 cA0 cA1 cA2 cA3 cA4 fA0 fA1 fA2 fA3 fA4 cR0 cR1 cR2 fR0 fR1 fR2 cY0 cY1 cY2 fY0 fY1 fY2
    replace OX : Hid (Own (((w2.setCell ⟨(w.heap.size + 3), 0, none⟩ (.slice A2 n2 c2)).setCell ⟨(w.heap.size + 3), 1, none⟩ (.slice A3 n3 c3)).setCell ⟨(w.heap.size + 3), 2, none⟩ (.int .i64 gv2)) w.heap.size 25 [.slice A n c, .slice A' m c', .int .i64 gv]) := Lib.hid (((OX.out.far (p := ⟨(w.heap.size + 3), 0, none⟩) (by first | omega | (simp; omega) | simp) (.slice A2 n2 c2)).far (p := ⟨(w.heap.size + 3), 1, none⟩) (by first | omega | (simp; omega) | simp) (.slice A3 n3 c3)).far (p := ⟨(w.heap.size + 3), 2, none⟩) (by first | omega | (simp; omega) | simp) (.int .i64 gv2))
    replace OA : Hid (Own (((w2.setCell ⟨(w.heap.size + 3), 0, none⟩ (.slice A2 n2 c2)).setCell ⟨(w.heap.size + 3), 1, none⟩ (.slice A3 n3 c3)).setCell ⟨(w.heap.size + 3), 2, none⟩ (.int .i64 gv2)) (w.heap.size + 1) 68 [.int .i64 ak, .int .i64 an, .int .i64 am, .string nm, .string tn]) := Lib.hid (((OA.out.far (p := ⟨(w.heap.size + 3), 0, none⟩) (by first | omega | (simp; omega) | simp) (.slice A2 n2 c2)).far (p := ⟨(w.heap.size + 3), 1, none⟩) (by first | omega | (simp; omega) | simp) (.slice A3 n3 c3)).far (p := ⟨(w.heap.size + 3), 2, none⟩) (by first | omega | (simp; omega) | simp) (.int .i64 gv2))
    replace OR : Hid (Own (((w2.setCell ⟨(w.heap.size + 3), 0, none⟩ (.slice A2 n2 c2)).setCell ⟨(w.heap.size + 3), 1, none⟩ (.slice A3 n3 c3)).setCell ⟨(w.heap.size + 3), 2, none⟩ (.int .i64 gv2)) (w.heap.size + 2) 25 [.slice none 0 0, .slice none 0 0, .int .i64 0]) := Lib.hid (((OR.out.far (p := ⟨(w.heap.size + 3), 0, none⟩) (by first | omega | (simp; omega) | simp) (.slice A2 n2 c2)).far (p := ⟨(w.heap.size + 3), 1, none⟩) (by first | omega | (simp; omega) | simp) (.slice A3 n3 c3)).far (p := ⟨(w.heap.size + 3), 2, none⟩) (by first | omega | (simp; omega) | simp) (.int .i64 gv2))
    replace OY : Hid (Own (((w2.setCell ⟨(w.heap.size + 3), 0, none⟩ (.slice A2 n2 c2)).setCell ⟨(w.heap.size + 3), 1, none⟩ (.slice A3 n3 c3)).setCell ⟨(w.heap.size + 3), 2, none⟩ (.int .i64 gv2)) (w.heap.size + 3) 25 [.slice A2 n2 c2, .slice A3 n3 c3, .int .i64 gv2]) := Lib.hid (((OY.out.set_ 0 (.slice A2 n2 c2)).set_ 1 (.slice A3 n3 c3)).set_ 2 (.int .i64 gv2))
    replace HX2 := Lib.hid (((HX2.out.put (p := ⟨(w.heap.size + 3), 0, none⟩) (by simp) (.slice A2 n2 c2)).put (p := ⟨(w.heap.size + 3), 1, none⟩) (by simp) (.slice A3 n3 c3)).put (p := ⟨(w.heap.size + 3), 2, none⟩) (by simp) (.int .i64 gv2))
    replace K := (((K.setCell (p := ⟨(w.heap.size + 3), 0, none⟩) (by first | exact Nat.le_refl _ | (simp only []; omega) | simp) (.slice A2 n2 c2)).setCell (p := ⟨(w.heap.size + 3), 1, none⟩) (by first | exact Nat.le_refl _ | (simp only []; omega) | simp) (.slice A3 n3 c3)).setCell (p := ⟨(w.heap.size + 3), 2, none⟩) (by first | exact Nat.le_refl _ | (simp only []; omega) | simp) (.int .i64 gv2))
    generalize (((w2.setCell ⟨(w.heap.size + 3), 0, none⟩ (.slice A2 n2 c2)).setCell ⟨(w.heap.size + 3), 1, none⟩ (.slice A3 n3 c3)).setCell ⟨(w.heap.size + 3), 2, none⟩ (.int .i64 gv2)) = w3 at *
    replace OX : Hid (Own (((w3.setCell ⟨(w.heap.size + 2), 0, none⟩ (.slice A n c)).setCell ⟨(w.heap.size + 2), 1, none⟩ (.slice A' m c')).setCell ⟨(w.heap.size + 2), 2, none⟩ (.int .i64 gv)) w.heap.size 25 [.slice A n c, .slice A' m c', .int .i64 gv]) := Lib.hid (((OX.out.far (p := ⟨(w.heap.size + 2), 0, none⟩) (by first | omega | (simp; omega) | simp) (.slice A n c)).far (p := ⟨(w.heap.size + 2), 1, none⟩) (by first | omega | (simp; omega) | simp) (.slice A' m c')).far (p := ⟨(w.heap.size + 2), 2, none⟩) (by first | omega | (simp; omega) | simp) (.int .i64 gv))
    replace OA : Hid (Own (((w3.setCell ⟨(w.heap.size + 2), 0, none⟩ (.slice A n c)).setCell ⟨(w.heap.size + 2), 1, none⟩ (.slice A' m c')).setCell ⟨(w.heap.size + 2), 2, none⟩ (.int .i64 gv)) (w.heap.size + 1) 68 [.int .i64 ak, .int .i64 an, .int .i64 am, .string nm, .string tn]) := Lib.hid (((OA.out.far (p := ⟨(w.heap.size + 2), 0, none⟩) (by first | omega | (simp; omega) | simp) (.slice A n c)).far (p := ⟨(w.heap.size + 2), 1, none⟩) (by first | omega | (simp; omega) | simp) (.slice A' m c')).far (p := ⟨(w.heap.size + 2), 2, none⟩) (by first | omega | (simp; omega) | simp) (.int .i64 gv))
    replace OR : Hid (Own (((w3.setCell ⟨(w.heap.size + 2), 0, none⟩ (.slice A n c)).setCell ⟨(w.heap.size + 2), 1, none⟩ (.slice A' m c')).setCell ⟨(w.heap.size + 2), 2, none⟩ (.int .i64 gv)) (w.heap.size + 2) 25 [.slice A n c, .slice A' m c', .int .i64 gv]) := Lib.hid (((OR.out.set_ 0 (.slice A n c)).set_ 1 (.slice A' m c')).set_ 2 (.int .i64 gv))
    replace OY : Hid (Own (((w3.setCell ⟨(w.heap.size + 2), 0, none⟩ (.slice A n c)).setCell ⟨(w.heap.size + 2), 1, none⟩ (.slice A' m c')).setCell ⟨(w.heap.size + 2), 2, none⟩ (.int .i64 gv)) (w.heap.size + 3) 25 [.slice A2 n2 c2, .slice A3 n3 c3, .int .i64 gv2]) := Lib.hid (((OY.out.far (p := ⟨(w.heap.size + 2), 0, none⟩) (by first | omega | (simp; omega) | simp) (.slice A n c)).far (p := ⟨(w.heap.size + 2), 1, none⟩) (by first | omega | (simp; omega) | simp) (.slice A' m c')).far (p := ⟨(w.heap.size + 2), 2, none⟩) (by first | omega | (simp; omega) | simp) (.int .i64 gv))
    replace HX2 := Lib.hid (((HX2.out.put (p := ⟨(w.heap.size + 2), 0, none⟩) (by simp) (.slice A n c)).put (p := ⟨(w.heap.size + 2), 1, none⟩) (by simp) (.slice A' m c')).put (p := ⟨(w.heap.size + 2), 2, none⟩) (by simp) (.int .i64 gv))
    replace K := (((K.setCell (p := ⟨(w.heap.size + 2), 0, none⟩) (by first | exact Nat.le_refl _ | (simp only []; omega) | simp) (.slice A n c)).setCell (p := ⟨(w.heap.size + 2), 1, none⟩) (by first | exact Nat.le_refl _ | (simp only []; omega) | simp) (.slice A' m c')).setCell (p := ⟨(w.heap.size + 2), 2, none⟩) (by first | exact Nat.le_refl _ | (simp only []; omega) | simp) (.int .i64 gv))
    generalize (((w3.setCell ⟨(w.heap.size + 2), 0, none⟩ (.slice A n c)).setCell ⟨(w.heap.size + 2), 1, none⟩ (.slice A' m c')).setCell ⟨(w.heap.size + 2), 2, none⟩ (.int .i64 gv)) = w4 at *
    obtain ⟨cX0, cX1, cX2, fX0, fX1, fX2⟩ := OX.out.three
    have cA0 := OA.out.cell? 0
    have fA0 := OA.out.frozen 0
    have cA1 := OA.out.cell? 1
    have fA1 := OA.out.frozen 1
    have cA2 := OA.out.cell? 2
    have fA2 := OA.out.frozen 2
    have cA3 := OA.out.cell? 3
    have fA3 := OA.out.frozen 3
    have cA4 := OA.out.cell? 4
    have fA4 := OA.out.frozen 4
    simp only [List.getElem?_cons_zero, List.getElem?_cons_succ] at cA0 cA1 cA2 cA3 cA4
    obtain ⟨cR0, cR1, cR2, fR0, fR1, fR2⟩ := OR.out.three
    obtain ⟨cY0, cY1, cY2, fY0, fY1, fY2⟩ := OY.out.three
    refine bodyPost_ret (v := .agg #[.slice A n c, .slice A' m c', .int .i64 gv]) (by simp [results, Try.results30, go_sem, cR0, cR1, cR2]) rfl ?_
    exact ⟨_, rfl, by rw [doneR, HAC.out, if_neg he]; exact HV.out.go K (Ext.refl _ _), K⟩

set_option maxRecDepth 100000 in
set_option maxHeartbeats 1000000 in
theorem done_3 (V : List Nat) (x : Ix) (v : Value) (ak an am : Int) (nm tn : ByteArray) (w : World) (hV : Old V w) (h : IxAt V w v x) (hok : IxOk x) (hns : nm.size ≤ maxLen) (hts : tn.size ≤ maxLen) (han : I64 an) (hkd : kindOf ak = 3) :
    Calls Try.prog 30 #[v, .agg #[.int .i64 ak, .int .i64 an, .int .i64 am, .string nm, .string tn]] w (IxRet1 V (doneR x 3 an am nm tn) w) := by
  have HV := Lib.hid h
  have HOV := Lib.hid hV
  have HOK := Lib.hid hok
  have HNS := Lib.hid hns
  have HTS := Lib.hid hts
  have HAN := Lib.hid han
  have HKD := Lib.hid hkd
  obtain ⟨A, c, A', c', rfl, hc1, hc2, hc3, hc4, hbx, hrow⟩ := (h.weak (U := []) (fun _ hk => by cases hk)).open_
  have HROW := Lib.hid hrow
  clear hbx hrow h hok hV hns hts han hkd
  unfold maxLen at hc2 hc4
  generalize hn : x.boxes.length = n at *
  generalize hm : x.subs.length = m at *
  generalize hg : x.given = gv at *
  have HN := Lib.hid hn
  have HM := Lib.hid hm
  have HG := Lib.hid hg
  clear hn hm hg
  have hkk := HKD.out
  unfold kindOf at hkk
  have tk0 : ((IntKind.u64.wrap ak).tmod 8 == 0) = false := beq_f (by omega)
  have tk1 : ((IntKind.u64.wrap ak).tmod 8 == 1) = false := beq_f (by omega)
  have tk2 : ((IntKind.u64.wrap ak).tmod 8 == 2) = false := beq_f (by omega)
  have tk3 : ((IntKind.u64.wrap ak).tmod 8 == 3) = true := beq_t hkk
  clear hkk
  go_enter Try.func30, Try.ntmps30
  go_wp2_with fail
  have OX := Lib.hid ((((Own.newAt w w.heap.size 25 [.slice A n c, .slice A' m c', .int .i64 gv] (by simp)).alloc (.cells #[.int .i64 ak, .int .i64 an, .int .i64 am, .string nm, .string tn] 68)).alloc (.cells #[.slice none 0 0, .slice none 0 0, .int .i64 0] 25)).alloc (.cells #[.slice A n c, .slice A' m c', .int .i64 gv] 25))
  have OA := Lib.hid (((Own.newAt (w.alloc (.cells #[.slice A n c, .slice A' m c', .int .i64 gv] 25)) (w.heap.size + 1) 68 [.int .i64 ak, .int .i64 an, .int .i64 am, .string nm, .string tn] (by simp)).alloc (.cells #[.slice none 0 0, .slice none 0 0, .int .i64 0] 25)).alloc (.cells #[.slice A n c, .slice A' m c', .int .i64 gv] 25))
  have OR := Lib.hid ((Own.newAt ((w.alloc (.cells #[.slice A n c, .slice A' m c', .int .i64 gv] 25)).alloc (.cells #[.int .i64 ak, .int .i64 an, .int .i64 am, .string nm, .string tn] 68)) (w.heap.size + 2) 25 [.slice none 0 0, .slice none 0 0, .int .i64 0] (by simp)).alloc (.cells #[.slice A n c, .slice A' m c', .int .i64 gv] 25))
  have OY := Lib.hid (Own.newAt (((w.alloc (.cells #[.slice A n c, .slice A' m c', .int .i64 gv] 25)).alloc (.cells #[.int .i64 ak, .int .i64 an, .int .i64 am, .string nm, .string tn] 68)).alloc (.cells #[.slice none 0 0, .slice none 0 0, .int .i64 0] 25)) (w.heap.size + 3) 25 [.slice A n c, .slice A' m c', .int .i64 gv] (by simp))
  have K := (((((Kept.refl w).alloc (.cells #[.slice A n c, .slice A' m c', .int .i64 gv] 25)).alloc (.cells #[.int .i64 ak, .int .i64 an, .int .i64 am, .string nm, .string tn] 68)).alloc (.cells #[.slice none 0 0, .slice none 0 0, .int .i64 0] 25)).alloc (.cells #[.slice A n c, .slice A' m c', .int .i64 gv] 25))
  generalize ((((w.alloc (.cells #[.slice A n c, .slice A' m c', .int .i64 gv] 25)).alloc (.cells #[.int .i64 ak, .int .i64 an, .int .i64 am, .string nm, .string tn] 68)).alloc (.cells #[.slice none 0 0, .slice none 0 0, .int .i64 0] 25)).alloc (.cells #[.slice A n c, .slice A' m c', .int .i64 gv] 25)) = w1 at *
  obtain ⟨cX0, cX1, cX2, fX0, fX1, fX2⟩ := OX.out.three
  have cA0 := OA.out.cell? 0
  have fA0 := OA.out.frozen 0
  have cA1 := OA.out.cell? 1
  have fA1 := OA.out.frozen 1
  have cA2 := OA.out.cell? 2
  have fA2 := OA.out.frozen 2
  have cA3 := OA.out.cell? 3
  have fA3 := OA.out.frozen 3
  have cA4 := OA.out.cell? 4
  have fA4 := OA.out.frozen 4
  simp only [List.getElem?_cons_zero, List.getElem?_cons_succ] at cA0 cA1 cA2 cA3 cA4
  obtain ⟨cR0, cR1, cR2, fR0, fR1, fR2⟩ := OR.out.three
  obtain ⟨cY0, cY1, cY2, fY0, fY1, fY2⟩ := OY.out.three
  have zX1 := OX.out.lt
  have zA1 := OA.out.lt
  have zR1 := OR.out.lt
  have zY1 := OY.out.lt
  have zK1 := K.size
  refine (subV_any ((w.heap.size + 2) :: (w.heap.size + 3) :: V) x _ nm _ _ (Old.cons OR.out.lt (Old.cons OY.out.lt (HOV.out.go K))) (HV.out.go K (Ext.cons (by omega) (Ext.cons (by omega) (Ext.refl _ _)))) HOK.out HNS.out).mono ?_
  rintro e w2 ⟨v2, rfl, hx2, hk⟩
  clear cX0 cX1 cX2 fX0 fX1 fX2 cA0 cA1 cA2 cA3 cA4 fA0 fA1 fA2 fA3 fA4 cR0 cR1 cR2 fR0 fR1 fR2 cY0 cY1 cY2 fY0 fY1 fY2
  replace OX := Lib.hid (OX.out.kept hk)
  replace OA := Lib.hid (OA.out.kept hk)
  replace OR := Lib.hid (OR.out.kept hk)
  replace OY := Lib.hid (OY.out.kept hk)
  replace K := K.trans hk
  have HX2 := Lib.hid hx2
  obtain ⟨A2, c2, A3, c3, rfl⟩ := hx2.form
  clear hx2
  clear hk
  have HAC : Hid (actR x 3 an am nm tn = ((subR x nm (decide (0 < an))).1, (subR x nm (decide (0 < an))).2)) := rfl
  generalize (subR x nm (decide (0 < an))).1 = y at *
  generalize (subR x nm (decide (0 < an))).2 = er at *
  generalize y.boxes.length = n2 at HX2 ⊢
  generalize y.subs.length = n3 at HX2 ⊢
  generalize y.given = gv2 at HX2 ⊢
  obtain ⟨cX0, cX1, cX2, fX0, fX1, fX2⟩ := OX.out.three
  have cA0 := OA.out.cell? 0
  have fA0 := OA.out.frozen 0
  have cA1 := OA.out.cell? 1
  have fA1 := OA.out.frozen 1
  have cA2 := OA.out.cell? 2
  have fA2 := OA.out.frozen 2
  have cA3 := OA.out.cell? 3
  have fA3 := OA.out.frozen 3
  have cA4 := OA.out.cell? 4
  have fA4 := OA.out.frozen 4
  simp only [List.getElem?_cons_zero, List.getElem?_cons_succ] at cA0 cA1 cA2 cA3 cA4
  obtain ⟨cR0, cR1, cR2, fR0, fR1, fR2⟩ := OR.out.three
  obtain ⟨cY0, cY1, cY2, fY0, fY1, fY2⟩ := OY.out.three
  by_cases he : er = 0
  · subst he
    go_wp2
    clear cX0 cX1 cX2 fX0 fX1 fX2 cA0 cA1 cA2 cA3 cA4 fA0 fA1 fA2 fA3 fA4 cR0 cR1 cR2 fR0 fR1 fR2 cY0 cY1 cY2 fY0 fY1 fY2
    replace OX : Hid (Own (((w2.setCell ⟨(w.heap.size + 3), 0, none⟩ (.slice A2 n2 c2)).setCell ⟨(w.heap.size + 3), 1, none⟩ (.slice A3 n3 c3)).setCell ⟨(w.heap.size + 3), 2, none⟩ (.int .i64 gv2)) w.heap.size 25 [.slice A n c, .slice A' m c', .int .i64 gv]) := Lib.hid (((OX.out.far (p := ⟨(w.heap.size + 3), 0, none⟩) (by first | omega | (simp; omega) | simp) (.slice A2 n2 c2)).far (p := ⟨(w.heap.size + 3), 1, none⟩) (by first | omega | (simp; omega) | simp) (.slice A3 n3 c3)).far (p := ⟨(w.heap.size + 3), 2, none⟩) (by first | omega | (simp; omega) | simp) (.int .i64 gv2))
    replace OA : Hid (Own (((w2.setCell ⟨(w.heap.size + 3), 0, none⟩ (.slice A2 n2 c2)).setCell ⟨(w.heap.size + 3), 1, none⟩ (.slice A3 n3 c3)).setCell ⟨(w.heap.size + 3), 2, none⟩ (.int .i64 gv2)) (w.heap.size + 1) 68 [.int .i64 ak, .int .i64 an, .int .i64 am, .string nm, .string tn]) := Lib.hid (((OA.out.far (p := ⟨(w.heap.size + 3), 0, none⟩) (by first | omega | (simp; omega) | simp) (.slice A2 n2 c2)).far (p := ⟨(w.heap.size + 3), 1, none⟩) (by first | omega | (simp; omega) | simp) (.slice A3 n3 c3)).far (p := ⟨(w.heap.size + 3), 2, none⟩) (by first | omega | (simp; omega) | simp) (.int .i64 gv2))
    replace OR : Hid (Own (((w2.setCell ⟨(w.heap.size + 3), 0, none⟩ (.slice A2 n2 c2)).setCell ⟨(w.heap.size + 3), 1, none⟩ (.slice A3 n3 c3)).setCell ⟨(w.heap.size + 3), 2, none⟩ (.int .i64 gv2)) (w.heap.size + 2) 25 [.slice none 0 0, .slice none 0 0, .int .i64 0]) := Lib.hid (((OR.out.far (p := ⟨(w.heap.size + 3), 0, none⟩) (by first | omega | (simp; omega) | simp) (.slice A2 n2 c2)).far (p := ⟨(w.heap.size + 3), 1, none⟩) (by first | omega | (simp; omega) | simp) (.slice A3 n3 c3)).far (p := ⟨(w.heap.size + 3), 2, none⟩) (by first | omega | (simp; omega) | simp) (.int .i64 gv2))
    replace OY : Hid (Own (((w2.setCell ⟨(w.heap.size + 3), 0, none⟩ (.slice A2 n2 c2)).setCell ⟨(w.heap.size + 3), 1, none⟩ (.slice A3 n3 c3)).setCell ⟨(w.heap.size + 3), 2, none⟩ (.int .i64 gv2)) (w.heap.size + 3) 25 [.slice A2 n2 c2, .slice A3 n3 c3, .int .i64 gv2]) := Lib.hid (((OY.out.set_ 0 (.slice A2 n2 c2)).set_ 1 (.slice A3 n3 c3)).set_ 2 (.int .i64 gv2))
    replace HX2 := Lib.hid (((HX2.out.put (p := ⟨(w.heap.size + 3), 0, none⟩) (by simp) (.slice A2 n2 c2)).put (p := ⟨(w.heap.size + 3), 1, none⟩) (by simp) (.slice A3 n3 c3)).put (p := ⟨(w.heap.size + 3), 2, none⟩) (by simp) (.int .i64 gv2))
    replace K := (((K.setCell (p := ⟨(w.heap.size + 3), 0, none⟩) (by first | exact Nat.le_refl _ | (simp only []; omega) | simp) (.slice A2 n2 c2)).setCell (p := ⟨(w.heap.size + 3), 1, none⟩) (by first | exact Nat.le_refl _ | (simp only []; omega) | simp) (.slice A3 n3 c3)).setCell (p := ⟨(w.heap.size + 3), 2, none⟩) (by first | exact Nat.le_refl _ | (simp only []; omega) | simp) (.int .i64 gv2))
    generalize (((w2.setCell ⟨(w.heap.size + 3), 0, none⟩ (.slice A2 n2 c2)).setCell ⟨(w.heap.size + 3), 1, none⟩ (.slice A3 n3 c3)).setCell ⟨(w.heap.size + 3), 2, none⟩ (.int .i64 gv2)) = w3 at *
    replace OX : Hid (Own (((w3.setCell ⟨(w.heap.size + 2), 0, none⟩ (.slice A2 n2 c2)).setCell ⟨(w.heap.size + 2), 1, none⟩ (.slice A3 n3 c3)).setCell ⟨(w.heap.size + 2), 2, none⟩ (.int .i64 gv2)) w.heap.size 25 [.slice A n c, .slice A' m c', .int .i64 gv]) := Lib.hid (((OX.out.far (p := ⟨(w.heap.size + 2), 0, none⟩) (by first | omega | (simp; omega) | simp) (.slice A2 n2 c2)).far (p := ⟨(w.heap.size + 2), 1, none⟩) (by first | omega | (simp; omega) | simp) (.slice A3 n3 c3)).far (p := ⟨(w.heap.size + 2), 2, none⟩) (by first | omega | (simp; omega) | simp) (.int .i64 gv2))
    replace OA : Hid (Own (((w3.setCell ⟨(w.heap.size + 2), 0, none⟩ (.slice A2 n2 c2)).setCell ⟨(w.heap.size + 2), 1, none⟩ (.slice A3 n3 c3)).setCell ⟨(w.heap.size + 2), 2, none⟩ (.int .i64 gv2)) (w.heap.size + 1) 68 [.int .i64 ak, .int .i64 an, .int .i64 am, .string nm, .string tn]) := Lib.hid (((OA.out.far (p := ⟨(w.heap.size + 2), 0, none⟩) (by first | omega | (simp; omega) | simp) (.slice A2 n2 c2)).far (p := ⟨(w.heap.size + 2), 1, none⟩) (by first | omega | (simp; omega) | simp) (.slice A3 n3 c3)).far (p := ⟨(w.heap.size + 2), 2, none⟩) (by first | omega | (simp; omega) | simp) (.int .i64 gv2))
    replace OR : Hid (Own (((w3.setCell ⟨(w.heap.size + 2), 0, none⟩ (.slice A2 n2 c2)).setCell ⟨(w.heap.size + 2), 1, none⟩ (.slice A3 n3 c3)).setCell ⟨(w.heap.size + 2), 2, none⟩ (.int .i64 gv2)) (w.heap.size + 2) 25 [.slice A2 n2 c2, .slice A3 n3 c3, .int .i64 gv2]) := Lib.hid (((OR.out.set_ 0 (.slice A2 n2 c2)).set_ 1 (.slice A3 n3 c3)).set_ 2 (.int .i64 gv2))
    replace OY : Hid (Own (((w3.setCell ⟨(w.heap.size + 2), 0, none⟩ (.slice A2 n2 c2)).setCell ⟨(w.heap.size + 2), 1, none⟩ (.slice A3 n3 c3)).setCell ⟨(w.heap.size + 2), 2, none⟩ (.int .i64 gv2)) (w.heap.size + 3) 25 [.slice A2 n2 c2, .slice A3 n3 c3, .int .i64 gv2]) := Lib.hid (((OY.out.far (p := ⟨(w.heap.size + 2), 0, none⟩) (by first | omega | (simp; omega) | simp) (.slice A2 n2 c2)).far (p := ⟨(w.heap.size + 2), 1, none⟩) (by first | omega | (simp; omega) | simp) (.slice A3 n3 c3)).far (p := ⟨(w.heap.size + 2), 2, none⟩) (by first | omega | (simp; omega) | simp) (.int .i64 gv2))
    replace HX2 := Lib.hid (((HX2.out.put (p := ⟨(w.heap.size + 2), 0, none⟩) (by simp) (.slice A2 n2 c2)).put (p := ⟨(w.heap.size + 2), 1, none⟩) (by simp) (.slice A3 n3 c3)).put (p := ⟨(w.heap.size + 2), 2, none⟩) (by simp) (.int .i64 gv2))
    replace K := (((K.setCell (p := ⟨(w.heap.size + 2), 0, none⟩) (by first | exact Nat.le_refl _ | (simp only []; omega) | simp) (.slice A2 n2 c2)).setCell (p := ⟨(w.heap.size + 2), 1, none⟩) (by first | exact Nat.le_refl _ | (simp only []; omega) | simp) (.slice A3 n3 c3)).setCell (p := ⟨(w.heap.size + 2), 2, none⟩) (by first | exact Nat.le_refl _ | (simp only []; omega) | simp) (.int .i64 gv2))
    generalize (((w3.setCell ⟨(w.heap.size + 2), 0, none⟩ (.slice A2 n2 c2)).setCell ⟨(w.heap.size + 2), 1, none⟩ (.slice A3 n3 c3)).setCell ⟨(w.heap.size + 2), 2, none⟩ (.int .i64 gv2)) = w4 at *
    obtain ⟨cX0, cX1, cX2, fX0, fX1, fX2⟩ := OX.out.three
    have cA0 := OA.out.cell? 0
    have fA0 := OA.out.frozen 0
    have cA1 := OA.out.cell? 1
    have fA1 := OA.out.frozen 1
    have cA2 := OA.out.cell? 2
    have fA2 := OA.out.frozen 2
    have cA3 := OA.out.cell? 3
    have fA3 := OA.out.frozen 3
    have cA4 := OA.out.cell? 4
    have fA4 := OA.out.frozen 4
    simp only [List.getElem?_cons_zero, List.getElem?_cons_succ] at cA0 cA1 cA2 cA3 cA4
    obtain ⟨cR0, cR1, cR2, fR0, fR1, fR2⟩ := OR.out.three
    obtain ⟨cY0, cY1, cY2, fY0, fY1, fY2⟩ := OY.out.three
    refine bodyPost_ret (v := .agg #[.slice A2 n2 c2, .slice A3 n3 c3, .int .i64 gv2]) (by simp [results, Try.results30, go_sem, cR0, cR1, cR2]) rfl ?_
    exact ⟨_, rfl, by rw [doneR, HAC.out, if_pos rfl]; exact HX2.out.go (Kept.refl _) (fun k hk => .inl (List.mem_cons_of_mem _ (List.mem_cons_of_mem _ hk))), K⟩
  · have he' : (er != 0) = true := bne_t he
    go_wp2
    clear cX0 cX1 cX2 fX0 fX1 fX2 cA0 cA1 cA2 cA3 cA4 fA0 fA1 fA2 fA3 fA4 cR0 cR1 cR2 fR0 fR1 fR2 cY0 cY1 cY2 fY0 fY1 fY2
    replace OX : Hid (Own (((w2.setCell ⟨(w.heap.size + 3), 0, none⟩ (.slice A2 n2 c2)).setCell ⟨(w.heap.size + 3), 1, none⟩ (.slice A3 n3 c3)).setCell ⟨(w.heap.size + 3), 2, none⟩ (.int .i64 gv2)) w.heap.size 25 [.slice A n c, .slice A' m c', .int .i64 gv]) := Lib.hid (((OX.out.far (p := ⟨(w.heap.size + 3), 0, none⟩) (by first | omega | (simp; omega) | simp) (.slice A2 n2 c2)).far (p := ⟨(w.heap.size + 3), 1, none⟩) (by first | omega | (simp; omega) | simp) (.slice A3 n3 c3)).far (p := ⟨(w.heap.size + 3), 2, none⟩) (by first | omega | (simp; omega) | simp) (.int .i64 gv2))
    replace OA : Hid (Own (((w2.setCell ⟨(w.heap.size + 3), 0, none⟩ (.slice A2 n2 c2)).setCell ⟨(w.heap.size + 3), 1, none⟩ (.slice A3 n3 c3)).setCell ⟨(w.heap.size + 3), 2, none⟩ (.int .i64 gv2)) (w.heap.size + 1) 68 [.int .i64 ak, .int .i64 an, .int .i64 am, .string nm, .string tn]) := Lib.hid (((OA.out.far (p := ⟨(w.heap.size + 3), 0, none⟩) (by first | omega | (simp; omega) | simp) (.slice A2 n2 c2)).far (p := ⟨(w.heap.size + 3), 1, none⟩) (by first | omega | (simp; omega) | simp) (.slice A3 n3 c3)).far (p := ⟨(w.heap.size + 3), 2, none⟩) (by first | omega | (simp; omega) | simp) (.int .i64 gv2))
    replace OR : Hid (Own (((w2.setCell ⟨(w.heap.size + 3), 0, none⟩ (.slice A2 n2 c2)).setCell ⟨(w.heap.size + 3), 1, none⟩ (.slice A3 n3 c3)).setCell ⟨(w.heap.size + 3), 2, none⟩ (.int .i64 gv2)) (w.heap.size + 2) 25 [.slice none 0 0, .slice none 0 0, .int .i64 0]) := Lib.hid (((OR.out.far (p := ⟨(w.heap.size + 3), 0, none⟩) (by first | omega | (simp; omega) | simp) (.slice A2 n2 c2)).far (p := ⟨(w.heap.size + 3), 1, none⟩) (by first | omega | (simp; omega) | simp) (.slice A3 n3 c3)).far (p := ⟨(w.heap.size + 3), 2, none⟩) (by first | omega | (simp; omega) | simp) (.int .i64 gv2))
    replace OY : Hid (Own (((w2.setCell ⟨(w.heap.size + 3), 0, none⟩ (.slice A2 n2 c2)).setCell ⟨(w.heap.size + 3), 1, none⟩ (.slice A3 n3 c3)).setCell ⟨(w.heap.size + 3), 2, none⟩ (.int .i64 gv2)) (w.heap.size + 3) 25 [.slice A2 n2 c2, .slice A3 n3 c3, .int .i64 gv2]) := Lib.hid (((OY.out.set_ 0 (.slice A2 n2 c2)).set_ 1 (.slice A3 n3 c3)).set_ 2 (.int .i64 gv2))
    replace HX2 := Lib.hid (((HX2.out.put (p := ⟨(w.heap.size + 3), 0, none⟩) (by simp) (.slice A2 n2 c2)).put (p := ⟨(w.heap.size + 3), 1, none⟩) (by simp) (.slice A3 n3 c3)).put (p := ⟨(w.heap.size + 3), 2, none⟩) (by simp) (.int .i64 gv2))
    replace K := (((K.setCell (p := ⟨(w.heap.size + 3), 0, none⟩) (by first | exact Nat.le_refl _ | (simp only []; omega) | simp) (.slice A2 n2 c2)).setCell (p := ⟨(w.heap.size + 3), 1, none⟩) (by first | exact Nat.le_refl _ | (simp only []; omega) | simp) (.slice A3 n3 c3)).setCell (p := ⟨(w.heap.size + 3), 2, none⟩) (by first | exact Nat.le_refl _ | (simp only []; omega) | simp) (.int .i64 gv2))
    generalize (((w2.setCell ⟨(w.heap.size + 3), 0, none⟩ (.slice A2 n2 c2)).setCell ⟨(w.heap.size + 3), 1, none⟩ (.slice A3 n3 c3)).setCell ⟨(w.heap.size + 3), 2, none⟩ (.int .i64 gv2)) = w3 at *
    replace OX : Hid (Own (((w3.setCell ⟨(w.heap.size + 2), 0, none⟩ (.slice A n c)).setCell ⟨(w.heap.size + 2), 1, none⟩ (.slice A' m c')).setCell ⟨(w.heap.size + 2), 2, none⟩ (.int .i64 gv)) w.heap.size 25 [.slice A n c, .slice A' m c', .int .i64 gv]) := Lib.hid (((OX.out.far (p := ⟨(w.heap.size + 2), 0, none⟩) (by first | omega | (simp; omega) | simp) (.slice A n c)).far (p := ⟨(w.heap.size + 2), 1, none⟩) (by first | omega | (simp; omega) | simp) (.slice A' m c')).far (p := ⟨(w.heap.size + 2), 2, none⟩) (by first | omega | (simp; omega) | simp) (.int .i64 gv))
    replace OA : Hid (Own (((w3.setCell ⟨(w.heap.size + 2), 0, none⟩ (.slice A n c)).setCell ⟨(w.heap.size + 2), 1, none⟩ (.slice A' m c')).setCell ⟨(w.heap.size + 2), 2, none⟩ (.int .i64 gv)) (w.heap.size + 1) 68 [.int .i64 ak, .int .i64 an, .int .i64 am, .string nm, .string tn]) := Lib.hid (((OA.out.far (p := ⟨(w.heap.size + 2), 0, none⟩) (by first | omega | (simp; omega) | simp) (.slice A n c)).far (p := ⟨(w.heap.size + 2), 1, none⟩) (by first | omega | (simp; omega) | simp) (.slice A' m c')).far (p := ⟨(w.heap.size + 2), 2, none⟩) (by first | omega | (simp; omega) | simp) (.int .i64 gv))
    replace OR : Hid (Own (((w3.setCell ⟨(w.heap.size + 2), 0, none⟩ (.slice A n c)).setCell ⟨(w.heap.size + 2), 1, none⟩ (.slice A' m c')).setCell ⟨(w.heap.size + 2), 2, none⟩ (.int .i64 gv)) (w.heap.size + 2) 25 [.slice A n c, .slice A' m c', .int .i64 gv]) := Lib.hid (((OR.out.set_ 0 (.slice A n c)).set_ 1 (.slice A' m c')).set_ 2 (.int .i64 gv))
    replace OY : Hid (Own (((w3.setCell ⟨(w.heap.size + 2), 0, none⟩ (.slice A n c)).setCell ⟨(w.heap.size + 2), 1, none⟩ (.slice A' m c')).setCell ⟨(w.heap.size + 2), 2, none⟩ (.int .i64 gv)) (w.heap.size + 3) 25 [.slice A2 n2 c2, .slice A3 n3 c3, .int .i64 gv2]) := Lib.hid (((OY.out.far (p := ⟨(w.heap.size + 2), 0, none⟩) (by first | omega | (simp; omega) | simp) (.slice A n c)).far (p := ⟨(w.heap.size + 2), 1, none⟩) (by first | omega | (simp; omega) | simp) (.slice A' m c')).far (p := ⟨(w.heap.size + 2), 2, none⟩) (by first | omega | (simp; omega) | simp) (.int .i64 gv))
    replace HX2 := Lib.hid (((HX2.out.put (p := ⟨(w.heap.size + 2), 0, none⟩) (by simp) (.slice A n c)).put (p := ⟨(w.heap.size + 2), 1, none⟩) (by simp) (.slice A' m c')).put (p := ⟨(w.heap.size + 2), 2, none⟩) (by simp) (.int .i64 gv))
    replace K := (((K.setCell (p := ⟨(w.heap.size + 2), 0, none⟩) (by first | exact Nat.le_refl _ | (simp only []; omega) | simp) (.slice A n c)).setCell (p := ⟨(w.heap.size + 2), 1, none⟩) (by first | exact Nat.le_refl _ | (simp only []; omega) | simp) (.slice A' m c')).setCell (p := ⟨(w.heap.size + 2), 2, none⟩) (by first | exact Nat.le_refl _ | (simp only []; omega) | simp) (.int .i64 gv))
    generalize (((w3.setCell ⟨(w.heap.size + 2), 0, none⟩ (.slice A n c)).setCell ⟨(w.heap.size + 2), 1, none⟩ (.slice A' m c')).setCell ⟨(w.heap.size + 2), 2, none⟩ (.int .i64 gv)) = w4 at *
    obtain ⟨cX0, cX1, cX2, fX0, fX1, fX2⟩ := OX.out.three
    have cA0 := OA.out.cell? 0
    have fA0 := OA.out.frozen 0
    have cA1 := OA.out.cell? 1
    have fA1 := OA.out.frozen 1
    have cA2 := OA.out.cell? 2
    have fA2 := OA.out.frozen 2
    have cA3 := OA.out.cell? 3
    have fA3 := OA.out.frozen 3
    have cA4 := OA.out.cell? 4
    have fA4 := OA.out.frozen 4
    simp only [List.getElem?_cons_zero, List.getElem?_cons_succ] at cA0 cA1 cA2 cA3 cA4
    obtain ⟨cR0, cR1, cR2, fR0, fR1, fR2⟩ := OR.out.three
    obtain ⟨cY0, cY1, cY2, fY0, fY1, fY2⟩ := OY.out.three
    refine bodyPost_ret (v := .agg #[.slice A n c, .slice A' m c', .int .i64 gv]) (by simp [results, Try.results30, go_sem, cR0, cR1, cR2]) rfl ?_
    exact ⟨_, rfl, by rw [doneR, HAC.out, if_neg he]; exact HV.out.go K (Ext.refl _ _), K⟩

set_option maxRecDepth 100000 in
set_option maxHeartbeats 1000000 in
theorem done_4 (V : List Nat) (x : Ix) (v : Value) (ak an am : Int) (nm tn : ByteArray) (w : World) (hV : Old V w) (h : IxAt V w v x) (hok : IxOk x) (hns : nm.size ≤ maxLen) (hts : tn.size ≤ maxLen) (han : I64 an) (hkd : kindOf ak = 4) :
    Calls Try.prog 30 #[v, .agg #[.int .i64 ak, .int .i64 an, .int .i64 am, .string nm, .string tn]] w (IxRet1 V (doneR x 4 an am nm tn) w) := by
  have HV := Lib.hid h
  have HOV := Lib.hid hV
  have HOK := Lib.hid hok
  have HNS := Lib.hid hns
  have HTS := Lib.hid hts
  have HAN := Lib.hid han
  have HKD := Lib.hid hkd
  obtain ⟨A, c, A', c', rfl, hc1, hc2, hc3, hc4, hbx, hrow⟩ := (h.weak (U := []) (fun _ hk => by cases hk)).open_
  have HROW := Lib.hid hrow
  clear hbx hrow h hok hV hns hts han hkd
  unfold maxLen at hc2 hc4
  generalize hn : x.boxes.length = n at *
  generalize hm : x.subs.length = m at *
  generalize hg : x.given = gv at *
  have HN := Lib.hid hn
  have HM := Lib.hid hm
  have HG := Lib.hid hg
  clear hn hm hg
  have hkk := HKD.out
  unfold kindOf at hkk
  have tk0 : ((IntKind.u64.wrap ak).tmod 8 == 0) = false := beq_f (by omega)
  have tk1 : ((IntKind.u64.wrap ak).tmod 8 == 1) = false := beq_f (by omega)
  have tk2 : ((IntKind.u64.wrap ak).tmod 8 == 2) = false := beq_f (by omega)
  have tk3 : ((IntKind.u64.wrap ak).tmod 8 == 3) = false := beq_f (by omega)
  have tk4 : ((IntKind.u64.wrap ak).tmod 8 == 4) = true := beq_t hkk
  clear hkk
  go_enter Try.func30, Try.ntmps30
  go_wp2_with fail
  have OX := Lib.hid ((((Own.newAt w w.heap.size 25 [.slice A n c, .slice A' m c', .int .i64 gv] (by simp)).alloc (.cells #[.int .i64 ak, .int .i64 an, .int .i64 am, .string nm, .string tn] 68)).alloc (.cells #[.slice none 0 0, .slice none 0 0, .int .i64 0] 25)).alloc (.cells #[.slice A n c, .slice A' m c', .int .i64 gv] 25))
  have OA := Lib.hid (((Own.newAt (w.alloc (.cells #[.slice A n c, .slice A' m c', .int .i64 gv] 25)) (w.heap.size + 1) 68 [.int .i64 ak, .int .i64 an, .int .i64 am, .string nm, .string tn] (by simp)).alloc (.cells #[.slice none 0 0, .slice none 0 0, .int .i64 0] 25)).alloc (.cells #[.slice A n c, .slice A' m c', .int .i64 gv] 25))
  have OR := Lib.hid ((Own.newAt ((w.alloc (.cells #[.slice A n c, .slice A' m c', .int .i64 gv] 25)).alloc (.cells #[.int .i64 ak, .int .i64 an, .int .i64 am, .string nm, .string tn] 68)) (w.heap.size + 2) 25 [.slice none 0 0, .slice none 0 0, .int .i64 0] (by simp)).alloc (.cells #[.slice A n c, .slice A' m c', .int .i64 gv] 25))
  have OY := Lib.hid (Own.newAt (((w.alloc (.cells #[.slice A n c, .slice A' m c', .int .i64 gv] 25)).alloc (.cells #[.int .i64 ak, .int .i64 an, .int .i64 am, .string nm, .string tn] 68)).alloc (.cells #[.slice none 0 0, .slice none 0 0, .int .i64 0] 25)) (w.heap.size + 3) 25 [.slice A n c, .slice A' m c', .int .i64 gv] (by simp))
  have K := (((((Kept.refl w).alloc (.cells #[.slice A n c, .slice A' m c', .int .i64 gv] 25)).alloc (.cells #[.int .i64 ak, .int .i64 an, .int .i64 am, .string nm, .string tn] 68)).alloc (.cells #[.slice none 0 0, .slice none 0 0, .int .i64 0] 25)).alloc (.cells #[.slice A n c, .slice A' m c', .int .i64 gv] 25))
  generalize ((((w.alloc (.cells #[.slice A n c, .slice A' m c', .int .i64 gv] 25)).alloc (.cells #[.int .i64 ak, .int .i64 an, .int .i64 am, .string nm, .string tn] 68)).alloc (.cells #[.slice none 0 0, .slice none 0 0, .int .i64 0] 25)).alloc (.cells #[.slice A n c, .slice A' m c', .int .i64 gv] 25)) = w1 at *
  obtain ⟨cX0, cX1, cX2, fX0, fX1, fX2⟩ := OX.out.three
  have cA0 := OA.out.cell? 0
  have fA0 := OA.out.frozen 0
  have cA1 := OA.out.cell? 1
  have fA1 := OA.out.frozen 1
  have cA2 := OA.out.cell? 2
  have fA2 := OA.out.frozen 2
  have cA3 := OA.out.cell? 3
  have fA3 := OA.out.frozen 3
  have cA4 := OA.out.cell? 4
  have fA4 := OA.out.frozen 4
  simp only [List.getElem?_cons_zero, List.getElem?_cons_succ] at cA0 cA1 cA2 cA3 cA4
  obtain ⟨cR0, cR1, cR2, fR0, fR1, fR2⟩ := OR.out.three
  obtain ⟨cY0, cY1, cY2, fY0, fY1, fY2⟩ := OY.out.three
  have zX1 := OX.out.lt
  have zA1 := OA.out.lt
  have zR1 := OR.out.lt
  have zY1 := OY.out.lt
  have zK1 := K.size
  refine (appV_any ((w.heap.size + 2) :: (w.heap.size + 3) :: V) x _ nm an am 0 _ (Old.cons OR.out.lt (Old.cons OY.out.lt (HOV.out.go K))) (HV.out.go K (Ext.cons (by omega) (Ext.cons (by omega) (Ext.refl _ _)))) HOK.out HAN.out).mono ?_
  rintro e w2 ⟨v2, rfl, hx2, hk⟩
  clear cX0 cX1 cX2 fX0 fX1 fX2 cA0 cA1 cA2 cA3 cA4 fA0 fA1 fA2 fA3 fA4 cR0 cR1 cR2 fR0 fR1 fR2 cY0 cY1 cY2 fY0 fY1 fY2
  replace OX := Lib.hid (OX.out.kept hk)
  replace OA := Lib.hid (OA.out.kept hk)
  replace OR := Lib.hid (OR.out.kept hk)
  replace OY := Lib.hid (OY.out.kept hk)
  replace K := K.trans hk
  have HX2 := Lib.hid hx2
  obtain ⟨A2, c2, A3, c3, rfl⟩ := hx2.form
  clear hx2
  clear hk
  have HAC : Hid (actR x 4 an am nm tn = ((appR x nm an am 0).1, (appR x nm an am 0).2.2)) := rfl
  generalize (appR x nm an am 0).1 = y at *
  generalize (appR x nm an am 0).2.2 = er at *
  generalize (appR x nm an am 0).2.1 = uu at *
  generalize y.boxes.length = n2 at HX2 ⊢
  generalize y.subs.length = n3 at HX2 ⊢
  generalize y.given = gv2 at HX2 ⊢
  obtain ⟨cX0, cX1, cX2, fX0, fX1, fX2⟩ := OX.out.three
  have cA0 := OA.out.cell? 0
  have fA0 := OA.out.frozen 0
  have cA1 := OA.out.cell? 1
  have fA1 := OA.out.frozen 1
  have cA2 := OA.out.cell? 2
  have fA2 := OA.out.frozen 2
  have cA3 := OA.out.cell? 3
  have fA3 := OA.out.frozen 3
  have cA4 := OA.out.cell? 4
  have fA4 := OA.out.frozen 4
  simp only [List.getElem?_cons_zero, List.getElem?_cons_succ] at cA0 cA1 cA2 cA3 cA4
  obtain ⟨cR0, cR1, cR2, fR0, fR1, fR2⟩ := OR.out.three
  obtain ⟨cY0, cY1, cY2, fY0, fY1, fY2⟩ := OY.out.three
  by_cases he : er = 0
  · subst he
    go_wp2
    clear cX0 cX1 cX2 fX0 fX1 fX2 cA0 cA1 cA2 cA3 cA4 fA0 fA1 fA2 fA3 fA4 cR0 cR1 cR2 fR0 fR1 fR2 cY0 cY1 cY2 fY0 fY1 fY2
    replace OX : Hid (Own (((w2.setCell ⟨(w.heap.size + 3), 0, none⟩ (.slice A2 n2 c2)).setCell ⟨(w.heap.size + 3), 1, none⟩ (.slice A3 n3 c3)).setCell ⟨(w.heap.size + 3), 2, none⟩ (.int .i64 gv2)) w.heap.size 25 [.slice A n c, .slice A' m c', .int .i64 gv]) := Lib.hid (((OX.out.far (p := ⟨(w.heap.size + 3), 0, none⟩) (by first | omega | (simp; omega) | simp) (.slice A2 n2 c2)).far (p := ⟨(w.heap.size + 3), 1, none⟩) (by first | omega | (simp; omega) | simp) (.slice A3 n3 c3)).far (p := ⟨(w.heap.size + 3), 2, none⟩) (by first | omega | (simp; omega) | simp) (.int .i64 gv2))
    replace OA : Hid (Own (((w2.setCell ⟨(w.heap.size + 3), 0, none⟩ (.slice A2 n2 c2)).setCell ⟨(w.heap.size + 3), 1, none⟩ (.slice A3 n3 c3)).setCell ⟨(w.heap.size + 3), 2, none⟩ (.int .i64 gv2)) (w.heap.size + 1) 68 [.int .i64 ak, .int .i64 an, .int .i64 am, .string nm, .string tn]) := Lib.hid (((OA.out.far (p := ⟨(w.heap.size + 3), 0, none⟩) (by first | omega | (simp; omega) | simp) (.slice A2 n2 c2)).far (p := ⟨(w.heap.size + 3), 1, none⟩) (by first | omega | (simp; omega) | simp) (.slice A3 n3 c3)).far (p := ⟨(w.heap.size + 3), 2, none⟩) (by first | omega | (simp; omega) | simp) (.int .i64 gv2))
    replace OR : Hid (Own (((w2.setCell ⟨(w.heap.size + 3), 0, none⟩ (.slice A2 n2 c2)).setCell ⟨(w.heap.size + 3), 1, none⟩ (.slice A3 n3 c3)).setCell ⟨(w.heap.size + 3), 2, none⟩ (.int .i64 gv2)) (w.heap.size + 2) 25 [.slice none 0 0, .slice none 0 0, .int .i64 0]) := Lib.hid (((OR.out.far (p := ⟨(w.heap.size + 3), 0, none⟩) (by first | omega | (simp; omega) | simp) (.slice A2 n2 c2)).far (p := ⟨(w.heap.size + 3), 1, none⟩) (by first | omega | (simp; omega) | simp) (.slice A3 n3 c3)).far (p := ⟨(w.heap.size + 3), 2, none⟩) (by first | omega | (simp; omega) | simp) (.int .i64 gv2))
    replace OY : Hid (Own (((w2.setCell ⟨(w.heap.size + 3), 0, none⟩ (.slice A2 n2 c2)).setCell ⟨(w.heap.size + 3), 1, none⟩ (.slice A3 n3 c3)).setCell ⟨(w.heap.size + 3), 2, none⟩ (.int .i64 gv2)) (w.heap.size + 3) 25 [.slice A2 n2 c2, .slice A3 n3 c3, .int .i64 gv2]) := Lib.hid (((OY.out.set_ 0 (.slice A2 n2 c2)).set_ 1 (.slice A3 n3 c3)).set_ 2 (.int .i64 gv2))
    replace HX2 := Lib.hid (((HX2.out.put (p := ⟨(w.heap.size + 3), 0, none⟩) (by simp) (.slice A2 n2 c2)).put (p := ⟨(w.heap.size + 3), 1, none⟩) (by simp) (.slice A3 n3 c3)).put (p := ⟨(w.heap.size + 3), 2, none⟩) (by simp) (.int .i64 gv2))
    replace K := (((K.setCell (p := ⟨(w.heap.size + 3), 0, none⟩) (by first | exact Nat.le_refl _ | (simp only []; omega) | simp) (.slice A2 n2 c2)).setCell (p := ⟨(w.heap.size + 3), 1, none⟩) (by first | exact Nat.le_refl _ | (simp only []; omega) | simp) (.slice A3 n3 c3)).setCell (p := ⟨(w.heap.size + 3), 2, none⟩) (by first | exact Nat.le_refl _ | (simp only []; omega) | simp) (.int .i64 gv2))
    generalize (((w2.setCell ⟨(w.heap.size + 3), 0, none⟩ (.slice A2 n2 c2)).setCell ⟨(w.heap.size + 3), 1, none⟩ (.slice A3 n3 c3)).setCell ⟨(w.heap.size + 3), 2, none⟩ (.int .i64 gv2)) = w3 at *
    replace OX : Hid (Own (((w3.setCell ⟨(w.heap.size + 2), 0, none⟩ (.slice A2 n2 c2)).setCell ⟨(w.heap.size + 2), 1, none⟩ (.slice A3 n3 c3)).setCell ⟨(w.heap.size + 2), 2, none⟩ (.int .i64 gv2)) w.heap.size 25 [.slice A n c, .slice A' m c', .int .i64 gv]) := Lib.hid (((OX.out.far (p := ⟨(w.heap.size + 2), 0, none⟩) (by first | omega | (simp; omega) | simp) (.slice A2 n2 c2)).far (p := ⟨(w.heap.size + 2), 1, none⟩) (by first | omega | (simp; omega) | simp) (.slice A3 n3 c3)).far (p := ⟨(w.heap.size + 2), 2, none⟩) (by first | omega | (simp; omega) | simp) (.int .i64 gv2))
    replace OA : Hid (Own (((w3.setCell ⟨(w.heap.size + 2), 0, none⟩ (.slice A2 n2 c2)).setCell ⟨(w.heap.size + 2), 1, none⟩ (.slice A3 n3 c3)).setCell ⟨(w.heap.size + 2), 2, none⟩ (.int .i64 gv2)) (w.heap.size + 1) 68 [.int .i64 ak, .int .i64 an, .int .i64 am, .string nm, .string tn]) := Lib.hid (((OA.out.far (p := ⟨(w.heap.size + 2), 0, none⟩) (by first | omega | (simp; omega) | simp) (.slice A2 n2 c2)).far (p := ⟨(w.heap.size + 2), 1, none⟩) (by first | omega | (simp; omega) | simp) (.slice A3 n3 c3)).far (p := ⟨(w.heap.size + 2), 2, none⟩) (by first | omega | (simp; omega) | simp) (.int .i64 gv2))
    replace OR : Hid (Own (((w3.setCell ⟨(w.heap.size + 2), 0, none⟩ (.slice A2 n2 c2)).setCell ⟨(w.heap.size + 2), 1, none⟩ (.slice A3 n3 c3)).setCell ⟨(w.heap.size + 2), 2, none⟩ (.int .i64 gv2)) (w.heap.size + 2) 25 [.slice A2 n2 c2, .slice A3 n3 c3, .int .i64 gv2]) := Lib.hid (((OR.out.set_ 0 (.slice A2 n2 c2)).set_ 1 (.slice A3 n3 c3)).set_ 2 (.int .i64 gv2))
    replace OY : Hid (Own (((w3.setCell ⟨(w.heap.size + 2), 0, none⟩ (.slice A2 n2 c2)).setCell ⟨(w.heap.size + 2), 1, none⟩ (.slice A3 n3 c3)).setCell ⟨(w.heap.size + 2), 2, none⟩ (.int .i64 gv2)) (w.heap.size + 3) 25 [.slice A2 n2 c2, .slice A3 n3 c3, .int .i64 gv2]) := Lib.hid (((OY.out.far (p := ⟨(w.heap.size + 2), 0, none⟩) (by first | omega | (simp; omega) | simp) (.slice A2 n2 c2)).far (p := ⟨(w.heap.size + 2), 1, none⟩) (by first | omega | (simp; omega) | simp) (.slice A3 n3 c3)).far (p := ⟨(w.heap.size + 2), 2, none⟩) (by first | omega | (simp; omega) | simp) (.int .i64 gv2))
    replace HX2 := Lib.hid (((HX2.out.put (p := ⟨(w.heap.size + 2), 0, none⟩) (by simp) (.slice A2 n2 c2)).put (p := ⟨(w.heap.size + 2), 1, none⟩) (by simp) (.slice A3 n3 c3)).put (p := ⟨(w.heap.size + 2), 2, none⟩) (by simp) (.int .i64 gv2))
    replace K := (((K.setCell (p := ⟨(w.heap.size + 2), 0, none⟩) (by first | exact Nat.le_refl _ | (simp only []; omega) | simp) (.slice A2 n2 c2)).setCell (p := ⟨(w.heap.size + 2), 1, none⟩) (by first | exact Nat.le_refl _ | (simp only []; omega) | simp) (.slice A3 n3 c3)).setCell (p := ⟨(w.heap.size + 2), 2, none⟩) (by first | exact Nat.le_refl _ | (simp only []; omega) | simp) (.int .i64 gv2))
    generalize (((w3.setCell ⟨(w.heap.size + 2), 0, none⟩ (.slice A2 n2 c2)).setCell ⟨(w.heap.size + 2), 1, none⟩ (.slice A3 n3 c3)).setCell ⟨(w.heap.size + 2), 2, none⟩ (.int .i64 gv2)) = w4 at *
    obtain ⟨cX0, cX1, cX2, fX0, fX1, fX2⟩ := OX.out.three
    have cA0 := OA.out.cell? 0
    have fA0 := OA.out.frozen 0
    have cA1 := OA.out.cell? 1
    have fA1 := OA.out.frozen 1
    have cA2 := OA.out.cell? 2
    have fA2 := OA.out.frozen 2
    have cA3 := OA.out.cell? 3
    have fA3 := OA.out.frozen 3
    have cA4 := OA.out.cell? 4
    have fA4 := OA.out.frozen 4
    simp only [List.getElem?_cons_zero, List.getElem?_cons_succ] at cA0 cA1 cA2 cA3 cA4
    obtain ⟨cR0, cR1, cR2, fR0, fR1, fR2⟩ := OR.out.three
    obtain ⟨cY0, cY1, cY2, fY0, fY1, fY2⟩ := OY.out.three
    refine bodyPost_ret (v := .agg #[.slice A2 n2 c2, .slice A3 n3 c3, .int .i64 gv2]) (by simp [results, Try.results30, go_sem, cR0, cR1, cR2]) rfl ?_
    exact ⟨_, rfl, by rw [doneR, HAC.out, if_pos rfl]; exact HX2.out.go (Kept.refl _) (fun k hk => .inl (List.mem_cons_of_mem _ (List.mem_cons_of_mem _ hk))), K⟩
  · have he' : (er != 0) = true := bne_t he
    go_wp2
    clear cX0 cX1 cX2 fX0 fX1 fX2 cA0 cA1 cA2 cA3 cA4 fA0 fA1 fA2 fA3 fA4 cR0 cR1 cR2 fR0 fR1 fR2 cY0 cY1 cY2 fY0 fY1 fY2
    replace OX : Hid (Own (((w2.setCell ⟨(w.heap.size + 3), 0, none⟩ (.slice A2 n2 c2)).setCell ⟨(w.heap.size + 3), 1, none⟩ (.slice A3 n3 c3)).setCell ⟨(w.heap.size + 3), 2, none⟩ (.int .i64 gv2)) w.heap.size 25 [.slice A n c, .slice A' m c', .int .i64 gv]) := Lib.hid (((OX.out.far (p := ⟨(w.heap.size + 3), 0, none⟩) (by first | omega | (simp; omega) | simp) (.slice A2 n2 c2)).far (p := ⟨(w.heap.size + 3), 1, none⟩) (by first | omega | (simp; omega) | simp) (.slice A3 n3 c3)).far (p := ⟨(w.heap.size + 3), 2, none⟩) (by first | omega | (simp; omega) | simp) (.int .i64 gv2))
    replace OA : Hid (Own (((w2.setCell ⟨(w.heap.size + 3), 0, none⟩ (.slice A2 n2 c2)).setCell ⟨(w.heap.size + 3), 1, none⟩ (.slice A3 n3 c3)).setCell ⟨(w.heap.size + 3), 2, none⟩ (.int .i64 gv2)) (w.heap.size + 1) 68 [.int .i64 ak, .int .i64 an, .int .i64 am, .string nm, .string tn]) := Lib.hid (((OA.out.far (p := ⟨(w.heap.size + 3), 0, none⟩) (by first | omega | (simp; omega) | simp) (.slice A2 n2 c2)).far (p := ⟨(w.heap.size + 3), 1, none⟩) (by first | omega | (simp; omega) | simp) (.slice A3 n3 c3)).far (p := ⟨(w.heap.size + 3), 2, none⟩) (by first | omega | (simp; omega) | simp) (.int .i64 gv2))
    replace OR : Hid (Own (((w2.setCell ⟨(w.heap.size + 3), 0, none⟩ (.slice A2 n2 c2)).setCell ⟨(w.heap.size + 3), 1, none⟩ (.slice A3 n3 c3)).setCell ⟨(w.heap.size + 3), 2, none⟩ (.int .i64 gv2)) (w.heap.size + 2) 25 [.slice none 0 0, .slice none 0 0, .int .i64 0]) := Lib.hid (((OR.out.far (p := ⟨(w.heap.size + 3), 0, none⟩) (by first | omega | (simp; omega) | simp) (.slice A2 n2 c2)).far (p := ⟨(w.heap.size + 3), 1, none⟩) (by first | omega | (simp; omega) | simp) (.slice A3 n3 c3)).far (p := ⟨(w.heap.size + 3), 2, none⟩) (by first | omega | (simp; omega) | simp) (.int .i64 gv2))
    replace OY : Hid (Own (((w2.setCell ⟨(w.heap.size + 3), 0, none⟩ (.slice A2 n2 c2)).setCell ⟨(w.heap.size + 3), 1, none⟩ (.slice A3 n3 c3)).setCell ⟨(w.heap.size + 3), 2, none⟩ (.int .i64 gv2)) (w.heap.size + 3) 25 [.slice A2 n2 c2, .slice A3 n3 c3, .int .i64 gv2]) := Lib.hid (((OY.out.set_ 0 (.slice A2 n2 c2)).set_ 1 (.slice A3 n3 c3)).set_ 2 (.int .i64 gv2))
    replace HX2 := Lib.hid (((HX2.out.put (p := ⟨(w.heap.size + 3), 0, none⟩) (by simp) (.slice A2 n2 c2)).put (p := ⟨(w.heap.size + 3), 1, none⟩) (by simp) (.slice A3 n3 c3)).put (p := ⟨(w.heap.size + 3), 2, none⟩) (by simp) (.int .i64 gv2))
    replace K := (((K.setCell (p := ⟨(w.heap.size + 3), 0, none⟩) (by first | exact Nat.le_refl _ | (simp only []; omega) | simp) (.slice A2 n2 c2)).setCell (p := ⟨(w.heap.size + 3), 1, none⟩) (by first | exact Nat.le_refl _ | (simp only []; omega) | simp) (.slice A3 n3 c3)).setCell (p := ⟨(w.heap.size + 3), 2, none⟩) (by first | exact Nat.le_refl _ | (simp only []; omega) | simp) (.int .i64 gv2))
    generalize (((w2.setCell ⟨(w.heap.size + 3), 0, none⟩ (.slice A2 n2 c2)).setCell ⟨(w.heap.size + 3), 1, none⟩ (.slice A3 n3 c3)).setCell ⟨(w.heap.size + 3), 2, none⟩ (.int .i64 gv2)) = w3 at *
    replace OX : Hid (Own (((w3.setCell ⟨(w.heap.size + 2), 0, none⟩ (.slice A n c)).setCell ⟨(w.heap.size + 2), 1, none⟩ (.slice A' m c')).setCell ⟨(w.heap.size + 2), 2, none⟩ (.int .i64 gv)) w.heap.size 25 [.slice A n c, .slice A' m c', .int .i64 gv]) := Lib.hid (((OX.out.far (p := ⟨(w.heap.size + 2), 0, none⟩) (by first | omega | (simp; omega) | simp) (.slice A n c)).far (p := ⟨(w.heap.size + 2), 1, none⟩) (by first | omega | (simp; omega) | simp) (.slice A' m c')).far (p := ⟨(w.heap.size + 2), 2, none⟩) (by first | omega | (simp; omega) | simp) (.int .i64 gv))
    replace OA : Hid (Own (((w3.setCell ⟨(w.heap.size + 2), 0, none⟩ (.slice A n c)).setCell ⟨(w.heap.size + 2), 1, none⟩ (.slice A' m c')).setCell ⟨(w.heap.size + 2), 2, none⟩ (.int .i64 gv)) (w.heap.size + 1) 68 [.int .i64 ak, .int .i64 an, .int .i64 am, .string nm, .string tn]) := Lib.hid (((OA.out.far (p := ⟨(w.heap.size + 2), 0, none⟩) (by first | omega | (simp; omega) | simp) (.slice A n c)).far (p := ⟨(w.heap.size + 2), 1, none⟩) (by first | omega | (simp; omega) | simp) (.slice A' m c')).far (p := ⟨(w.heap.size + 2), 2, none⟩) (by first | omega | (simp; omega) | simp) (.int .i64 gv))
    replace OR : Hid (Own (((w3.setCell ⟨(w.heap.size + 2), 0, none⟩ (.slice A n c)).setCell ⟨(w.heap.size + 2), 1, none⟩ (.slice A' m c')).setCell ⟨(w.heap.size + 2), 2, none⟩ (.int .i64 gv)) (w.heap.size + 2) 25 [.slice A n c, .slice A' m c', .int .i64 gv]) := Lib.hid (((OR.out.set_ 0 (.slice A n c)).set_ 1 (.slice A' m c')).set_ 2 (.int .i64 gv))
    replace OY : Hid (Own (((w3.setCell ⟨(w.heap.size + 2), 0, none⟩ (.slice A n c)).setCell ⟨(w.heap.size + 2), 1, none⟩ (.slice A' m c')).setCell ⟨(w.heap.size + 2), 2, none⟩ (.int .i64 gv)) (w.heap.size + 3) 25 [.slice A2 n2 c2, .slice A3 n3 c3, .int .i64 gv2]) := Lib.hid (((OY.out.far (p := ⟨(w.heap.size + 2), 0, none⟩) (by first | omega | (simp; omega) | simp) (.slice A n c)).far (p := ⟨(w.heap.size + 2), 1, none⟩) (by first | omega | (simp; omega) | simp) (.slice A' m c')).far (p := ⟨(w.heap.size + 2), 2, none⟩) (by first | omega | (simp; omega) | simp) (.int .i64 gv))
    replace HX2 := Lib.hid (((HX2.out.put (p := ⟨(w.heap.size + 2), 0, none⟩) (by simp) (.slice A n c)).put (p := ⟨(w.heap.size + 2), 1, none⟩) (by simp) (.slice A' m c')).put (p := ⟨(w.heap.size + 2), 2, none⟩) (by simp) (.int .i64 gv))
    replace K := (((K.setCell (p := ⟨(w.heap.size + 2), 0, none⟩) (by first | exact Nat.le_refl _ | (simp only []; omega) | simp) (.slice A n c)).setCell (p := ⟨(w.heap.size + 2), 1, none⟩) (by first | exact Nat.le_refl _ | (simp only []; omega) | simp) (.slice A' m c')).setCell (p := ⟨(w.heap.size + 2), 2, none⟩) (by first | exact Nat.le_refl _ | (simp only []; omega) | simp) (.int .i64 gv))
    generalize (((w3.setCell ⟨(w.heap.size + 2), 0, none⟩ (.slice A n c)).setCell ⟨(w.heap.size + 2), 1, none⟩ (.slice A' m c')).setCell ⟨(w.heap.size + 2), 2, none⟩ (.int .i64 gv)) = w4 at *
    obtain ⟨cX0, cX1, cX2, fX0, fX1, fX2⟩ := OX.out.three
    have cA0 := OA.out.cell? 0
    have fA0 := OA.out.frozen 0
    have cA1 := OA.out.cell? 1
    have fA1 := OA.out.frozen 1
    have cA2 := OA.out.cell? 2
    have fA2 := OA.out.frozen 2
    have cA3 := OA.out.cell? 3
    have fA3 := OA.out.frozen 3
    have cA4 := OA.out.cell? 4
    have fA4 := OA.out.frozen 4
    simp only [List.getElem?_cons_zero, List.getElem?_cons_succ] at cA0 cA1 cA2 cA3 cA4
    obtain ⟨cR0, cR1, cR2, fR0, fR1, fR2⟩ := OR.out.three
    obtain ⟨cY0, cY1, cY2, fY0, fY1, fY2⟩ := OY.out.three
    refine bodyPost_ret (v := .agg #[.slice A n c, .slice A' m c', .int .i64 gv]) (by simp [results, Try.results30, go_sem, cR0, cR1, cR2]) rfl ?_
    exact ⟨_, rfl, by rw [doneR, HAC.out, if_neg he]; exact HV.out.go K (Ext.refl _ _), K⟩

set_option maxRecDepth 100000 in
set_option maxHeartbeats 1000000 in
theorem done_5 (V : List Nat) (x : Ix) (v : Value) (ak an am : Int) (nm tn : ByteArray) (w : World) (hV : Old V w) (h : IxAt V w v x) (hok : IxOk x) (hns : nm.size ≤ maxLen) (hts : tn.size ≤ maxLen) (han : I64 an) (hkd : kindOf ak = 5) :
    Calls Try.prog 30 #[v, .agg #[.int .i64 ak, .int .i64 an, .int .i64 am, .string nm, .string tn]] w (IxRet1 V (doneR x 5 an am nm tn) w) := by
  have HV := Lib.hid h
  have HOV := Lib.hid hV
  have HOK := Lib.hid hok
  have HNS := Lib.hid hns
  have HTS := Lib.hid hts
  have HAN := Lib.hid han
  have HKD := Lib.hid hkd
  obtain ⟨A, c, A', c', rfl, hc1, hc2, hc3, hc4, hbx, hrow⟩ := (h.weak (U := []) (fun _ hk => by cases hk)).open_
  have HROW := Lib.hid hrow
  clear hbx hrow h hok hV hns hts han hkd
  unfold maxLen at hc2 hc4
  generalize hn : x.boxes.length = n at *
  generalize hm : x.subs.length = m at *
  generalize hg : x.given = gv at *
  have HN := Lib.hid hn
  have HM := Lib.hid hm
  have HG := Lib.hid hg
  clear hn hm hg
  have hkk := HKD.out
  unfold kindOf at hkk
  have tk0 : ((IntKind.u64.wrap ak).tmod 8 == 0) = false := beq_f (by omega)
  have tk1 : ((IntKind.u64.wrap ak).tmod 8 == 1) = false := beq_f (by omega)
  have tk2 : ((IntKind.u64.wrap ak).tmod 8 == 2) = false := beq_f (by omega)
  have tk3 : ((IntKind.u64.wrap ak).tmod 8 == 3) = false := beq_f (by omega)
  have tk4 : ((IntKind.u64.wrap ak).tmod 8 == 4) = false := beq_f (by omega)
  have tk5 : ((IntKind.u64.wrap ak).tmod 8 == 5) = true := beq_t hkk
  clear hkk
  go_enter Try.func30, Try.ntmps30
  go_wp2_with fail
  have OX := Lib.hid ((((Own.newAt w w.heap.size 25 [.slice A n c, .slice A' m c', .int .i64 gv] (by simp)).alloc (.cells #[.int .i64 ak, .int .i64 an, .int .i64 am, .string nm, .string tn] 68)).alloc (.cells #[.slice none 0 0, .slice none 0 0, .int .i64 0] 25)).alloc (.cells #[.slice A n c, .slice A' m c', .int .i64 gv] 25))
  have OA := Lib.hid (((Own.newAt (w.alloc (.cells #[.slice A n c, .slice A' m c', .int .i64 gv] 25)) (w.heap.size + 1) 68 [.int .i64 ak, .int .i64 an, .int .i64 am, .string nm, .string tn] (by simp)).alloc (.cells #[.slice none 0 0, .slice none 0 0, .int .i64 0] 25)).alloc (.cells #[.slice A n c, .slice A' m c', .int .i64 gv] 25))
  have OR := Lib.hid ((Own.newAt ((w.alloc (.cells #[.slice A n c, .slice A' m c', .int .i64 gv] 25)).alloc (.cells #[.int .i64 ak, .int .i64 an, .int .i64 am, .string nm, .string tn] 68)) (w.heap.size + 2) 25 [.slice none 0 0, .slice none 0 0, .int .i64 0] (by simp)).alloc (.cells #[.slice A n c, .slice A' m c', .int .i64 gv] 25))
  have OY := Lib.hid (Own.newAt (((w.alloc (.cells #[.slice A n c, .slice A' m c', .int .i64 gv] 25)).alloc (.cells #[.int .i64 ak, .int .i64 an, .int .i64 am, .string nm, .string tn] 68)).alloc (.cells #[.slice none 0 0, .slice none 0 0, .int .i64 0] 25)) (w.heap.size + 3) 25 [.slice A n c, .slice A' m c', .int .i64 gv] (by simp))
  have K := (((((Kept.refl w).alloc (.cells #[.slice A n c, .slice A' m c', .int .i64 gv] 25)).alloc (.cells #[.int .i64 ak, .int .i64 an, .int .i64 am, .string nm, .string tn] 68)).alloc (.cells #[.slice none 0 0, .slice none 0 0, .int .i64 0] 25)).alloc (.cells #[.slice A n c, .slice A' m c', .int .i64 gv] 25))
  generalize ((((w.alloc (.cells #[.slice A n c, .slice A' m c', .int .i64 gv] 25)).alloc (.cells #[.int .i64 ak, .int .i64 an, .int .i64 am, .string nm, .string tn] 68)).alloc (.cells #[.slice none 0 0, .slice none 0 0, .int .i64 0] 25)).alloc (.cells #[.slice A n c, .slice A' m c', .int .i64 gv] 25)) = w1 at *
  obtain ⟨cX0, cX1, cX2, fX0, fX1, fX2⟩ := OX.out.three
  have cA0 := OA.out.cell? 0
  have fA0 := OA.out.frozen 0
  have cA1 := OA.out.cell? 1
  have fA1 := OA.out.frozen 1
  have cA2 := OA.out.cell? 2
  have fA2 := OA.out.frozen 2
  have cA3 := OA.out.cell? 3
  have fA3 := OA.out.frozen 3
  have cA4 := OA.out.cell? 4
  have fA4 := OA.out.frozen 4
  simp only [List.getElem?_cons_zero, List.getElem?_cons_succ] at cA0 cA1 cA2 cA3 cA4
  obtain ⟨cR0, cR1, cR2, fR0, fR1, fR2⟩ := OR.out.three
  obtain ⟨cY0, cY1, cY2, fY0, fY1, fY2⟩ := OY.out.three
  have zX1 := OX.out.lt
  have zA1 := OA.out.lt
  have zR1 := OR.out.lt
  have zY1 := OY.out.lt
  have zK1 := K.size
  refine (flag_any ((w.heap.size + 2) :: (w.heap.size + 3) :: V) x _ nm an am _ (Old.cons OR.out.lt (Old.cons OY.out.lt (HOV.out.go K))) (HV.out.go K (Ext.cons (by omega) (Ext.cons (by omega) (Ext.refl _ _)))) HOK.out).mono ?_
  rintro e w2 ⟨v2, rfl, hx2, hk⟩
  clear cX0 cX1 cX2 fX0 fX1 fX2 cA0 cA1 cA2 cA3 cA4 fA0 fA1 fA2 fA3 fA4 cR0 cR1 cR2 fR0 fR1 fR2 cY0 cY1 cY2 fY0 fY1 fY2
  replace OX := Lib.hid (OX.out.kept hk)
  replace OA := Lib.hid (OA.out.kept hk)
  replace OR := Lib.hid (OR.out.kept hk)
  replace OY := Lib.hid (OY.out.kept hk)
  replace K := K.trans hk
  have HX2 := Lib.hid hx2
  obtain ⟨A2, c2, A3, c3, rfl⟩ := hx2.form
  clear hx2
  clear hk
  have HAC : Hid (actR x 5 an am nm tn = ((flagR x nm an am).1, (flagR x nm an am).2)) := rfl
  generalize (flagR x nm an am).1 = y at *
  generalize (flagR x nm an am).2 = er at *
  generalize y.boxes.length = n2 at HX2 ⊢
  generalize y.subs.length = n3 at HX2 ⊢
  generalize y.given = gv2 at HX2 ⊢
  obtain ⟨cX0, cX1, cX2, fX0, fX1, fX2⟩ := OX.out.three
  have cA0 := OA.out.cell? 0
  have fA0 := OA.out.frozen 0
  have cA1 := OA.out.cell? 1
  have fA1 := OA.out.frozen 1
  have cA2 := OA.out.cell? 2
  have fA2 := OA.out.frozen 2
  have cA3 := OA.out.cell? 3
  have fA3 := OA.out.frozen 3
  have cA4 := OA.out.cell? 4
  have fA4 := OA.out.frozen 4
  simp only [List.getElem?_cons_zero, List.getElem?_cons_succ] at cA0 cA1 cA2 cA3 cA4
  obtain ⟨cR0, cR1, cR2, fR0, fR1, fR2⟩ := OR.out.three
  obtain ⟨cY0, cY1, cY2, fY0, fY1, fY2⟩ := OY.out.three
  by_cases he : er = 0
  · subst he
    go_wp2
    clear cX0 cX1 cX2 fX0 fX1 fX2 cA0 cA1 cA2 cA3 cA4 fA0 fA1 fA2 fA3 fA4 cR0 cR1 cR2 fR0 fR1 fR2 cY0 cY1 cY2 fY0 fY1 fY2
    replace OX : Hid (Own (((w2.setCell ⟨(w.heap.size + 3), 0, none⟩ (.slice A2 n2 c2)).setCell ⟨(w.heap.size + 3), 1, none⟩ (.slice A3 n3 c3)).setCell ⟨(w.heap.size + 3), 2, none⟩ (.int .i64 gv2)) w.heap.size 25 [.slice A n c, .slice A' m c', .int .i64 gv]) := Lib.hid (((OX.out.far (p := ⟨(w.heap.size + 3), 0, none⟩) (by first | omega | (simp; omega) | simp) (.slice A2 n2 c2)).far (p := ⟨(w.heap.size + 3), 1, none⟩) (by first | omega | (simp; omega) | simp) (.slice A3 n3 c3)).far (p := ⟨(w.heap.size + 3), 2, none⟩) (by first | omega | (simp; omega) | simp) (.int .i64 gv2))
    replace OA : Hid (Own (((w2.setCell ⟨(w.heap.size + 3), 0, none⟩ (.slice A2 n2 c2)).setCell ⟨(w.heap.size + 3), 1, none⟩ (.slice A3 n3 c3)).setCell ⟨(w.heap.size + 3), 2, none⟩ (.int .i64 gv2)) (w.heap.size + 1) 68 [.int .i64 ak, .int .i64 an, .int .i64 am, .string nm, .string tn]) := Lib.hid (((OA.out.far (p := ⟨(w.heap.size + 3), 0, none⟩) (by first | omega | (simp; omega) | simp) (.slice A2 n2 c2)).far (p := ⟨(w.heap.size + 3), 1, none⟩) (by first | omega | (simp; omega) | simp) (.slice A3 n3 c3)).far (p := ⟨(w.heap.size + 3), 2, none⟩) (by first | omega | (simp; omega) | simp) (.int .i64 gv2))
    replace OR : Hid (Own (((w2.setCell ⟨(w.heap.size + 3), 0, none⟩ (.slice A2 n2 c2)).setCell ⟨(w.heap.size + 3), 1, none⟩ (.slice A3 n3 c3)).setCell ⟨(w.heap.size + 3), 2, none⟩ (.int .i64 gv2)) (w.heap.size + 2) 25 [.slice none 0 0, .slice none 0 0, .int .i64 0]) := Lib.hid (((OR.out.far (p := ⟨(w.heap.size + 3), 0, none⟩) (by first | omega | (simp; omega) | simp) (.slice A2 n2 c2)).far (p := ⟨(w.heap.size + 3), 1, none⟩) (by first | omega | (simp; omega) | simp) (.slice A3 n3 c3)).far (p := ⟨(w.heap.size + 3), 2, none⟩) (by first | omega | (simp; omega) | simp) (.int .i64 gv2))
    replace OY : Hid (Own (((w2.setCell ⟨(w.heap.size + 3), 0, none⟩ (.slice A2 n2 c2)).setCell ⟨(w.heap.size + 3), 1, none⟩ (.slice A3 n3 c3)).setCell ⟨(w.heap.size + 3), 2, none⟩ (.int .i64 gv2)) (w.heap.size + 3) 25 [.slice A2 n2 c2, .slice A3 n3 c3, .int .i64 gv2]) := Lib.hid (((OY.out.set_ 0 (.slice A2 n2 c2)).set_ 1 (.slice A3 n3 c3)).set_ 2 (.int .i64 gv2))
    replace HX2 := Lib.hid (((HX2.out.put (p := ⟨(w.heap.size + 3), 0, none⟩) (by simp) (.slice A2 n2 c2)).put (p := ⟨(w.heap.size + 3), 1, none⟩) (by simp) (.slice A3 n3 c3)).put (p := ⟨(w.heap.size + 3), 2, none⟩) (by simp) (.int .i64 gv2))
    replace K := (((K.setCell (p := ⟨(w.heap.size + 3), 0, none⟩) (by first | exact Nat.le_refl _ | (simp only []; omega) | simp) (.slice A2 n2 c2)).setCell (p := ⟨(w.heap.size + 3), 1, none⟩) (by first | exact Nat.le_refl _ | (simp only []; omega) | simp) (.slice A3 n3 c3)).setCell (p := ⟨(w.heap.size + 3), 2, none⟩) (by first | exact Nat.le_refl _ | (simp only []; omega) | simp) (.int .i64 gv2))
    generalize (((w2.setCell ⟨(w.heap.size + 3), 0, none⟩ (.slice A2 n2 c2)).setCell ⟨(w.heap.size + 3), 1, none⟩ (.slice A3 n3 c3)).setCell ⟨(w.heap.size + 3), 2, none⟩ (.int .i64 gv2)) = w3 at *
    replace OX : Hid (Own (((w3.setCell ⟨(w.heap.size + 2), 0, none⟩ (.slice A2 n2 c2)).setCell ⟨(w.heap.size + 2), 1, none⟩ (.slice A3 n3 c3)).setCell ⟨(w.heap.size + 2), 2, none⟩ (.int .i64 gv2)) w.heap.size 25 [.slice A n c, .slice A' m c', .int .i64 gv]) := Lib.hid (((OX.out.far (p := ⟨(w.heap.size + 2), 0, none⟩) (by first | omega | (simp; omega) | simp) (.slice A2 n2 c2)).far (p := ⟨(w.heap.size + 2), 1, none⟩) (by first | omega | (simp; omega) | simp) (.slice A3 n3 c3)).far (p := ⟨(w.heap.size + 2), 2, none⟩) (by first | omega | (simp; omega) | simp) (.int .i64 gv2))
    replace OA : Hid (Own (((w3.setCell ⟨(w.heap.size + 2), 0, none⟩ (.slice A2 n2 c2)).setCell ⟨(w.heap.size + 2), 1, none⟩ (.slice A3 n3 c3)).setCell ⟨(w.heap.size + 2), 2, none⟩ (.int .i64 gv2)) (w.heap.size + 1) 68 [.int .i64 ak, .int .i64 an, .int .i64 am, .string nm, .string tn]) := Lib.hid (((OA.out.far (p := ⟨(w.heap.size + 2), 0, none⟩) (by first | omega | (simp; omega) | simp) (.slice A2 n2 c2)).far (p := ⟨(w.heap.size + 2), 1, none⟩) (by first | omega | (simp; omega) | simp) (.slice A3 n3 c3)).far (p := ⟨(w.heap.size + 2), 2, none⟩) (by first | omega | (simp; omega) | simp) (.int .i64 gv2))
    replace OR : Hid (Own (((w3.setCell ⟨(w.heap.size + 2), 0, none⟩ (.slice A2 n2 c2)).setCell ⟨(w.heap.size + 2), 1, none⟩ (.slice A3 n3 c3)).setCell ⟨(w.heap.size + 2), 2, none⟩ (.int .i64 gv2)) (w.heap.size + 2) 25 [.slice A2 n2 c2, .slice A3 n3 c3, .int .i64 gv2]) := Lib.hid (((OR.out.set_ 0 (.slice A2 n2 c2)).set_ 1 (.slice A3 n3 c3)).set_ 2 (.int .i64 gv2))
    replace OY : Hid (Own (((w3.setCell ⟨(w.heap.size + 2), 0, none⟩ (.slice A2 n2 c2)).setCell ⟨(w.heap.size + 2), 1, none⟩ (.slice A3 n3 c3)).setCell ⟨(w.heap.size + 2), 2, none⟩ (.int .i64 gv2)) (w.heap.size + 3) 25 [.slice A2 n2 c2, .slice A3 n3 c3, .int .i64 gv2]) := Lib.hid (((OY.out.far (p := ⟨(w.heap.size + 2), 0, none⟩) (by first | omega | (simp; omega) | simp) (.slice A2 n2 c2)).far (p := ⟨(w.heap.size + 2), 1, none⟩) (by first | omega | (simp; omega) | simp) (.slice A3 n3 c3)).far (p := ⟨(w.heap.size + 2), 2, none⟩) (by first | omega | (simp; omega) | simp) (.int .i64 gv2))
    replace HX2 := Lib.hid (((HX2.out.put (p := ⟨(w.heap.size + 2), 0, none⟩) (by simp) (.slice A2 n2 c2)).put (p := ⟨(w.heap.size + 2), 1, none⟩) (by simp) (.slice A3 n3 c3)).put (p := ⟨(w.heap.size + 2), 2, none⟩) (by simp) (.int .i64 gv2))
    replace K := (((K.setCell (p := ⟨(w.heap.size + 2), 0, none⟩) (by first | exact Nat.le_refl _ | (simp only []; omega) | simp) (.slice A2 n2 c2)).setCell (p := ⟨(w.heap.size + 2), 1, none⟩) (by first | exact Nat.le_refl _ | (simp only []; omega) | simp) (.slice A3 n3 c3)).setCell (p := ⟨(w.heap.size + 2), 2, none⟩) (by first | exact Nat.le_refl _ | (simp only []; omega) | simp) (.int .i64 gv2))
    generalize (((w3.setCell ⟨(w.heap.size + 2), 0, none⟩ (.slice A2 n2 c2)).setCell ⟨(w.heap.size + 2), 1, none⟩ (.slice A3 n3 c3)).setCell ⟨(w.heap.size + 2), 2, none⟩ (.int .i64 gv2)) = w4 at *
    obtain ⟨cX0, cX1, cX2, fX0, fX1, fX2⟩ := OX.out.three
    have cA0 := OA.out.cell? 0
    have fA0 := OA.out.frozen 0
    have cA1 := OA.out.cell? 1
    have fA1 := OA.out.frozen 1
    have cA2 := OA.out.cell? 2
    have fA2 := OA.out.frozen 2
    have cA3 := OA.out.cell? 3
    have fA3 := OA.out.frozen 3
    have cA4 := OA.out.cell? 4
    have fA4 := OA.out.frozen 4
    simp only [List.getElem?_cons_zero, List.getElem?_cons_succ] at cA0 cA1 cA2 cA3 cA4
    obtain ⟨cR0, cR1, cR2, fR0, fR1, fR2⟩ := OR.out.three
    obtain ⟨cY0, cY1, cY2, fY0, fY1, fY2⟩ := OY.out.three
    refine bodyPost_ret (v := .agg #[.slice A2 n2 c2, .slice A3 n3 c3, .int .i64 gv2]) (by simp [results, Try.results30, go_sem, cR0, cR1, cR2]) rfl ?_
    exact ⟨_, rfl, by rw [doneR, HAC.out, if_pos rfl]; exact HX2.out.go (Kept.refl _) (fun k hk => .inl (List.mem_cons_of_mem _ (List.mem_cons_of_mem _ hk))), K⟩
  · have he' : (er != 0) = true := bne_t he
    go_wp2
    clear cX0 cX1 cX2 fX0 fX1 fX2 cA0 cA1 cA2 cA3 cA4 fA0 fA1 fA2 fA3 fA4 cR0 cR1 cR2 fR0 fR1 fR2 cY0 cY1 cY2 fY0 fY1 fY2
    replace OX : Hid (Own (((w2.setCell ⟨(w.heap.size + 3), 0, none⟩ (.slice A2 n2 c2)).setCell ⟨(w.heap.size + 3), 1, none⟩ (.slice A3 n3 c3)).setCell ⟨(w.heap.size + 3), 2, none⟩ (.int .i64 gv2)) w.heap.size 25 [.slice A n c, .slice A' m c', .int .i64 gv]) := Lib.hid (((OX.out.far (p := ⟨(w.heap.size + 3), 0, none⟩) (by first | omega | (simp; omega) | simp) (.slice A2 n2 c2)).far (p := ⟨(w.heap.size + 3), 1, none⟩) (by first | omega | (simp; omega) | simp) (.slice A3 n3 c3)).far (p := ⟨(w.heap.size + 3), 2, none⟩) (by first | omega | (simp; omega) | simp) (.int .i64 gv2))
    replace OA : Hid (Own (((w2.setCell ⟨(w.heap.size + 3), 0, none⟩ (.slice A2 n2 c2)).setCell ⟨(w.heap.size + 3), 1, none⟩ (.slice A3 n3 c3)).setCell ⟨(w.heap.size + 3), 2, none⟩ (.int .i64 gv2)) (w.heap.size + 1) 68 [.int .i64 ak, .int .i64 an, .int .i64 am, .string nm, .string tn]) := Lib.hid (((OA.out.far (p := ⟨(w.heap.size + 3), 0, none⟩) (by first | omega | (simp; omega) | simp) (.slice A2 n2 c2)).far (p := ⟨(w.heap.size + 3), 1, none⟩) (by first | omega | (simp; omega) | simp) (.slice A3 n3 c3)).far (p := ⟨(w.heap.size + 3), 2, none⟩) (by first | omega | (simp; omega) | simp) (.int .i64 gv2))
    replace OR : Hid (Own (((w2.setCell ⟨(w.heap.size + 3), 0, none⟩ (.slice A2 n2 c2)).setCell ⟨(w.heap.size + 3), 1, none⟩ (.slice A3 n3 c3)).setCell ⟨(w.heap.size + 3), 2, none⟩ (.int .i64 gv2)) (w.heap.size + 2) 25 [.slice none 0 0, .slice none 0 0, .int .i64 0]) := Lib.hid (((OR.out.far (p := ⟨(w.heap.size + 3), 0, none⟩) (by first | omega | (simp; omega) | simp) (.slice A2 n2 c2)).far (p := ⟨(w.heap.size + 3), 1, none⟩) (by first | omega | (simp; omega) | simp) (.slice A3 n3 c3)).far (p := ⟨(w.heap.size + 3), 2, none⟩) (by first | omega | (simp; omega) | simp) (.int .i64 gv2))
    replace OY : Hid (Own (((w2.setCell ⟨(w.heap.size + 3), 0, none⟩ (.slice A2 n2 c2)).setCell ⟨(w.heap.size + 3), 1, none⟩ (.slice A3 n3 c3)).setCell ⟨(w.heap.size + 3), 2, none⟩ (.int .i64 gv2)) (w.heap.size + 3) 25 [.slice A2 n2 c2, .slice A3 n3 c3, .int .i64 gv2]) := Lib.hid (((OY.out.set_ 0 (.slice A2 n2 c2)).set_ 1 (.slice A3 n3 c3)).set_ 2 (.int .i64 gv2))
    replace HX2 := Lib.hid (((HX2.out.put (p := ⟨(w.heap.size + 3), 0, none⟩) (by simp) (.slice A2 n2 c2)).put (p := ⟨(w.heap.size + 3), 1, none⟩) (by simp) (.slice A3 n3 c3)).put (p := ⟨(w.heap.size + 3), 2, none⟩) (by simp) (.int .i64 gv2))
    replace K := (((K.setCell (p := ⟨(w.heap.size + 3), 0, none⟩) (by first | exact Nat.le_refl _ | (simp only []; omega) | simp) (.slice A2 n2 c2)).setCell (p := ⟨(w.heap.size + 3), 1, none⟩) (by first | exact Nat.le_refl _ | (simp only []; omega) | simp) (.slice A3 n3 c3)).setCell (p := ⟨(w.heap.size + 3), 2, none⟩) (by first | exact Nat.le_refl _ | (simp only []; omega) | simp) (.int .i64 gv2))
    generalize (((w2.setCell ⟨(w.heap.size + 3), 0, none⟩ (.slice A2 n2 c2)).setCell ⟨(w.heap.size + 3), 1, none⟩ (.slice A3 n3 c3)).setCell ⟨(w.heap.size + 3), 2, none⟩ (.int .i64 gv2)) = w3 at *
    replace OX : Hid (Own (((w3.setCell ⟨(w.heap.size + 2), 0, none⟩ (.slice A n c)).setCell ⟨(w.heap.size + 2), 1, none⟩ (.slice A' m c')).setCell ⟨(w.heap.size + 2), 2, none⟩ (.int .i64 gv)) w.heap.size 25 [.slice A n c, .slice A' m c', .int .i64 gv]) := Lib.hid (((OX.out.far (p := ⟨(w.heap.size + 2), 0, none⟩) (by first | omega | (simp; omega) | simp) (.slice A n c)).far (p := ⟨(w.heap.size + 2), 1, none⟩) (by first | omega | (simp; omega) | simp) (.slice A' m c')).far (p := ⟨(w.heap.size + 2), 2, none⟩) (by first | omega | (simp; omega) | simp) (.int .i64 gv))
    replace OA : Hid (Own (((w3.setCell ⟨(w.heap.size + 2), 0, none⟩ (.slice A n c)).setCell ⟨(w.heap.size + 2), 1, none⟩ (.slice A' m c')).setCell ⟨(w.heap.size + 2), 2, none⟩ (.int .i64 gv)) (w.heap.size + 1) 68 [.int .i64 ak, .int .i64 an, .int .i64 am, .string nm, .string tn]) := Lib.hid (((OA.out.far (p := ⟨(w.heap.size + 2), 0, none⟩) (by first | omega | (simp; omega) | simp) (.slice A n c)).far (p := ⟨(w.heap.size + 2), 1, none⟩) (by first | omega | (simp; omega) | simp) (.slice A' m c')).far (p := ⟨(w.heap.size + 2), 2, none⟩) (by first | omega | (simp; omega) | simp) (.int .i64 gv))
    replace OR : Hid (Own (((w3.setCell ⟨(w.heap.size + 2), 0, none⟩ (.slice A n c)).setCell ⟨(w.heap.size + 2), 1, none⟩ (.slice A' m c')).setCell ⟨(w.heap.size + 2), 2, none⟩ (.int .i64 gv)) (w.heap.size + 2) 25 [.slice A n c, .slice A' m c', .int .i64 gv]) := Lib.hid (((OR.out.set_ 0 (.slice A n c)).set_ 1 (.slice A' m c')).set_ 2 (.int .i64 gv))
    replace OY : Hid (Own (((w3.setCell ⟨(w.heap.size + 2), 0, none⟩ (.slice A n c)).setCell ⟨(w.heap.size + 2), 1, none⟩ (.slice A' m c')).setCell ⟨(w.heap.size + 2), 2, none⟩ (.int .i64 gv)) (w.heap.size + 3) 25 [.slice A2 n2 c2, .slice A3 n3 c3, .int .i64 gv2]) := Lib.hid (((OY.out.far (p := ⟨(w.heap.size + 2), 0, none⟩) (by first | omega | (simp; omega) | simp) (.slice A n c)).far (p := ⟨(w.heap.size + 2), 1, none⟩) (by first | omega | (simp; omega) | simp) (.slice A' m c')).far (p := ⟨(w.heap.size + 2), 2, none⟩) (by first | omega | (simp; omega) | simp) (.int .i64 gv))
    replace HX2 := Lib.hid (((HX2.out.put (p := ⟨(w.heap.size + 2), 0, none⟩) (by simp) (.slice A n c)).put (p := ⟨(w.heap.size + 2), 1, none⟩) (by simp) (.slice A' m c')).put (p := ⟨(w.heap.size + 2), 2, none⟩) (by simp) (.int .i64 gv))
    replace K := (((K.setCell (p := ⟨(w.heap.size + 2), 0, none⟩) (by first | exact Nat.le_refl _ | (simp only []; omega) | simp) (.slice A n c)).setCell (p := ⟨(w.heap.size + 2), 1, none⟩) (by first | exact Nat.le_refl _ | (simp only []; omega) | simp) (.slice A' m c')).setCell (p := ⟨(w.heap.size + 2), 2, none⟩) (by first | exact Nat.le_refl _ | (simp only []; omega) | simp) (.int .i64 gv))
    generalize (((w3.setCell ⟨(w.heap.size + 2), 0, none⟩ (.slice A n c)).setCell ⟨(w.heap.size + 2), 1, none⟩ (.slice A' m c')).setCell ⟨(w.heap.size + 2), 2, none⟩ (.int .i64 gv)) = w4 at *
    obtain ⟨cX0, cX1, cX2, fX0, fX1, fX2⟩ := OX.out.three
    have cA0 := OA.out.cell? 0
    have fA0 := OA.out.frozen 0
    have cA1 := OA.out.cell? 1
    have fA1 := OA.out.frozen 1
    have cA2 := OA.out.cell? 2
    have fA2 := OA.out.frozen 2
    have cA3 := OA.out.cell? 3
    have fA3 := OA.out.frozen 3
    have cA4 := OA.out.cell? 4
    have fA4 := OA.out.frozen 4
    simp only [List.getElem?_cons_zero, List.getElem?_cons_succ] at cA0 cA1 cA2 cA3 cA4
    obtain ⟨cR0, cR1, cR2, fR0, fR1, fR2⟩ := OR.out.three
    obtain ⟨cY0, cY1, cY2, fY0, fY1, fY2⟩ := OY.out.three
    refine bodyPost_ret (v := .agg #[.slice A n c, .slice A' m c', .int .i64 gv]) (by simp [results, Try.results30, go_sem, cR0, cR1, cR2]) rfl ?_
    exact ⟨_, rfl, by rw [doneR, HAC.out, if_neg he]; exact HV.out.go K (Ext.refl _ _), K⟩

set_option maxRecDepth 100000 in
set_option maxHeartbeats 1000000 in
theorem done_6 (V : List Nat) (x : Ix) (v : Value) (ak an am : Int) (nm tn : ByteArray) (w : World) (hV : Old V w) (h : IxAt V w v x) (hok : IxOk x) (hns : nm.size ≤ maxLen) (hts : tn.size ≤ maxLen) (han : I64 an) (hkd : kindOf ak = 6) :
    Calls Try.prog 30 #[v, .agg #[.int .i64 ak, .int .i64 an, .int .i64 am, .string nm, .string tn]] w (IxRet1 V (doneR x 6 an am nm tn) w) := by
  have HV := Lib.hid h
  have HOV := Lib.hid hV
  have HOK := Lib.hid hok
  have HNS := Lib.hid hns
  have HTS := Lib.hid hts
  have HAN := Lib.hid han
  have HKD := Lib.hid hkd
  obtain ⟨A, c, A', c', rfl, hc1, hc2, hc3, hc4, hbx, hrow⟩ := (h.weak (U := []) (fun _ hk => by cases hk)).open_
  have HROW := Lib.hid hrow
  clear hbx hrow h hok hV hns hts han hkd
  unfold maxLen at hc2 hc4
  generalize hn : x.boxes.length = n at *
  generalize hm : x.subs.length = m at *
  generalize hg : x.given = gv at *
  have HN := Lib.hid hn
  have HM := Lib.hid hm
  have HG := Lib.hid hg
  clear hn hm hg
  have hkk := HKD.out
  unfold kindOf at hkk
  have tk0 : ((IntKind.u64.wrap ak).tmod 8 == 0) = false := beq_f (by omega)
  have tk1 : ((IntKind.u64.wrap ak).tmod 8 == 1) = false := beq_f (by omega)
  have tk2 : ((IntKind.u64.wrap ak).tmod 8 == 2) = false := beq_f (by omega)
  have tk3 : ((IntKind.u64.wrap ak).tmod 8 == 3) = false := beq_f (by omega)
  have tk4 : ((IntKind.u64.wrap ak).tmod 8 == 4) = false := beq_f (by omega)
  have tk5 : ((IntKind.u64.wrap ak).tmod 8 == 5) = false := beq_f (by omega)
  have tk6 : ((IntKind.u64.wrap ak).tmod 8 == 6) = true := beq_t hkk
  clear hkk
  go_enter Try.func30, Try.ntmps30
  go_wp2_with fail
  have OX := Lib.hid ((((Own.newAt w w.heap.size 25 [.slice A n c, .slice A' m c', .int .i64 gv] (by simp)).alloc (.cells #[.int .i64 ak, .int .i64 an, .int .i64 am, .string nm, .string tn] 68)).alloc (.cells #[.slice none 0 0, .slice none 0 0, .int .i64 0] 25)).alloc (.cells #[.slice A n c, .slice A' m c', .int .i64 gv] 25))
  have OA := Lib.hid (((Own.newAt (w.alloc (.cells #[.slice A n c, .slice A' m c', .int .i64 gv] 25)) (w.heap.size + 1) 68 [.int .i64 ak, .int .i64 an, .int .i64 am, .string nm, .string tn] (by simp)).alloc (.cells #[.slice none 0 0, .slice none 0 0, .int .i64 0] 25)).alloc (.cells #[.slice A n c, .slice A' m c', .int .i64 gv] 25))
  have OR := Lib.hid ((Own.newAt ((w.alloc (.cells #[.slice A n c, .slice A' m c', .int .i64 gv] 25)).alloc (.cells #[.int .i64 ak, .int .i64 an, .int .i64 am, .string nm, .string tn] 68)) (w.heap.size + 2) 25 [.slice none 0 0, .slice none 0 0, .int .i64 0] (by simp)).alloc (.cells #[.slice A n c, .slice A' m c', .int .i64 gv] 25))
  have OY := Lib.hid (Own.newAt (((w.alloc (.cells #[.slice A n c, .slice A' m c', .int .i64 gv] 25)).alloc (.cells #[.int .i64 ak, .int .i64 an, .int .i64 am, .string nm, .string tn] 68)).alloc (.cells #[.slice none 0 0, .slice none 0 0, .int .i64 0] 25)) (w.heap.size + 3) 25 [.slice A n c, .slice A' m c', .int .i64 gv] (by simp))
  have K := (((((Kept.refl w).alloc (.cells #[.slice A n c, .slice A' m c', .int .i64 gv] 25)).alloc (.cells #[.int .i64 ak, .int .i64 an, .int .i64 am, .string nm, .string tn] 68)).alloc (.cells #[.slice none 0 0, .slice none 0 0, .int .i64 0] 25)).alloc (.cells #[.slice A n c, .slice A' m c', .int .i64 gv] 25))
  generalize ((((w.alloc (.cells #[.slice A n c, .slice A' m c', .int .i64 gv] 25)).alloc (.cells #[.int .i64 ak, .int .i64 an, .int .i64 am, .string nm, .string tn] 68)).alloc (.cells #[.slice none 0 0, .slice none 0 0, .int .i64 0] 25)).alloc (.cells #[.slice A n c, .slice A' m c', .int .i64 gv] 25)) = w1 at *
  obtain ⟨cX0, cX1, cX2, fX0, fX1, fX2⟩ := OX.out.three
  have cA0 := OA.out.cell? 0
  have fA0 := OA.out.frozen 0
  have cA1 := OA.out.cell? 1
  have fA1 := OA.out.frozen 1
  have cA2 := OA.out.cell? 2
  have fA2 := OA.out.frozen 2
  have cA3 := OA.out.cell? 3
  have fA3 := OA.out.frozen 3
  have cA4 := OA.out.cell? 4
  have fA4 := OA.out.frozen 4
  simp only [List.getElem?_cons_zero, List.getElem?_cons_succ] at cA0 cA1 cA2 cA3 cA4
  obtain ⟨cR0, cR1, cR2, fR0, fR1, fR2⟩ := OR.out.three
  obtain ⟨cY0, cY1, cY2, fY0, fY1, fY2⟩ := OY.out.three
  have zX1 := OX.out.lt
  have zA1 := OA.out.lt
  have zR1 := OR.out.lt
  have zY1 := OY.out.lt
  have zK1 := K.size
  refine (expV_any ((w.heap.size + 2) :: (w.heap.size + 3) :: V) x _ nm an _ (Old.cons OR.out.lt (Old.cons OY.out.lt (HOV.out.go K))) (HV.out.go K (Ext.cons (by omega) (Ext.cons (by omega) (Ext.refl _ _)))) HOK.out).mono ?_
  rintro e w2 ⟨v2, rfl, hx2, hk⟩
  clear cX0 cX1 cX2 fX0 fX1 fX2 cA0 cA1 cA2 cA3 cA4 fA0 fA1 fA2 fA3 fA4 cR0 cR1 cR2 fR0 fR1 fR2 cY0 cY1 cY2 fY0 fY1 fY2
  replace OX := Lib.hid (OX.out.kept hk)
  replace OA := Lib.hid (OA.out.kept hk)
  replace OR := Lib.hid (OR.out.kept hk)
  replace OY := Lib.hid (OY.out.kept hk)
  replace K := K.trans hk
  have HX2 := Lib.hid hx2
  obtain ⟨A2, c2, A3, c3, rfl⟩ := hx2.form
  clear hx2
  clear hk
  have HAC : Hid (actR x 6 an am nm tn = ((expR x nm an).1, (expR x nm an).2)) := rfl
  generalize (expR x nm an).1 = y at *
  generalize (expR x nm an).2 = er at *
  generalize y.boxes.length = n2 at HX2 ⊢
  generalize y.subs.length = n3 at HX2 ⊢
  generalize y.given = gv2 at HX2 ⊢
  obtain ⟨cX0, cX1, cX2, fX0, fX1, fX2⟩ := OX.out.three
  have cA0 := OA.out.cell? 0
  have fA0 := OA.out.frozen 0
  have cA1 := OA.out.cell? 1
  have fA1 := OA.out.frozen 1
  have cA2 := OA.out.cell? 2
  have fA2 := OA.out.frozen 2
  have cA3 := OA.out.cell? 3
  have fA3 := OA.out.frozen 3
  have cA4 := OA.out.cell? 4
  have fA4 := OA.out.frozen 4
  simp only [List.getElem?_cons_zero, List.getElem?_cons_succ] at cA0 cA1 cA2 cA3 cA4
  obtain ⟨cR0, cR1, cR2, fR0, fR1, fR2⟩ := OR.out.three
  obtain ⟨cY0, cY1, cY2, fY0, fY1, fY2⟩ := OY.out.three
  by_cases he : er = 0
  · subst he
    go_wp2
    clear cX0 cX1 cX2 fX0 fX1 fX2 cA0 cA1 cA2 cA3 cA4 fA0 fA1 fA2 fA3 fA4 cR0 cR1 cR2 fR0 fR1 fR2 cY0 cY1 cY2 fY0 fY1 fY2
    replace OX : Hid (Own (((w2.setCell ⟨(w.heap.size + 3), 0, none⟩ (.slice A2 n2 c2)).setCell ⟨(w.heap.size + 3), 1, none⟩ (.slice A3 n3 c3)).setCell ⟨(w.heap.size + 3), 2, none⟩ (.int .i64 gv2)) w.heap.size 25 [.slice A n c, .slice A' m c', .int .i64 gv]) := Lib.hid (((OX.out.far (p := ⟨(w.heap.size + 3), 0, none⟩) (by first | omega | (simp; omega) | simp) (.slice A2 n2 c2)).far (p := ⟨(w.heap.size + 3), 1, none⟩) (by first | omega | (simp; omega) | simp) (.slice A3 n3 c3)).far (p := ⟨(w.heap.size + 3), 2, none⟩) (by first | omega | (simp; omega) | simp) (.int .i64 gv2))
    replace OA : Hid (Own (((w2.setCell ⟨(w.heap.size + 3), 0, none⟩ (.slice A2 n2 c2)).setCell ⟨(w.heap.size + 3), 1, none⟩ (.slice A3 n3 c3)).setCell ⟨(w.heap.size + 3), 2, none⟩ (.int .i64 gv2)) (w.heap.size + 1) 68 [.int .i64 ak, .int .i64 an, .int .i64 am, .string nm, .string tn]) := Lib.hid (((OA.out.far (p := ⟨(w.heap.size + 3), 0, none⟩) (by first | omega | (simp; omega) | simp) (.slice A2 n2 c2)).far (p := ⟨(w.heap.size + 3), 1, none⟩) (by first | omega | (simp; omega) | simp) (.slice A3 n3 c3)).far (p := ⟨(w.heap.size + 3), 2, none⟩) (by first | omega | (simp; omega) | simp) (.int .i64 gv2))
    replace OR : Hid (Own (((w2.setCell ⟨(w.heap.size + 3), 0, none⟩ (.slice A2 n2 c2)).setCell ⟨(w.heap.size + 3), 1, none⟩ (.slice A3 n3 c3)).setCell ⟨(w.heap.size + 3), 2, none⟩ (.int .i64 gv2)) (w.heap.size + 2) 25 [.slice none 0 0, .slice none 0 0, .int .i64 0]) := Lib.hid (((OR.out.far (p := ⟨(w.heap.size + 3), 0, none⟩) (by first | omega | (simp; omega) | simp) (.slice A2 n2 c2)).far (p := ⟨(w.heap.size + 3), 1, none⟩) (by first | omega | (simp; omega) | simp) (.slice A3 n3 c3)).far (p := ⟨(w.heap.size + 3), 2, none⟩) (by first | omega | (simp; omega) | simp) (.int .i64 gv2))
    replace OY : Hid (Own (((w2.setCell ⟨(w.heap.size + 3), 0, none⟩ (.slice A2 n2 c2)).setCell ⟨(w.heap.size + 3), 1, none⟩ (.slice A3 n3 c3)).setCell ⟨(w.heap.size + 3), 2, none⟩ (.int .i64 gv2)) (w.heap.size + 3) 25 [.slice A2 n2 c2, .slice A3 n3 c3, .int .i64 gv2]) := Lib.hid (((OY.out.set_ 0 (.slice A2 n2 c2)).set_ 1 (.slice A3 n3 c3)).set_ 2 (.int .i64 gv2))
    replace HX2 := Lib.hid (((HX2.out.put (p := ⟨(w.heap.size + 3), 0, none⟩) (by simp) (.slice A2 n2 c2)).put (p := ⟨(w.heap.size + 3), 1, none⟩) (by simp) (.slice A3 n3 c3)).put (p := ⟨(w.heap.size + 3), 2, none⟩) (by simp) (.int .i64 gv2))
    replace K := (((K.setCell (p := ⟨(w.heap.size + 3), 0, none⟩) (by first | exact Nat.le_refl _ | (simp only []; omega) | simp) (.slice A2 n2 c2)).setCell (p := ⟨(w.heap.size + 3), 1, none⟩) (by first | exact Nat.le_refl _ | (simp only []; omega) | simp) (.slice A3 n3 c3)).setCell (p := ⟨(w.heap.size + 3), 2, none⟩) (by first | exact Nat.le_refl _ | (simp only []; omega) | simp) (.int .i64 gv2))
    generalize (((w2.setCell ⟨(w.heap.size + 3), 0, none⟩ (.slice A2 n2 c2)).setCell ⟨(w.heap.size + 3), 1, none⟩ (.slice A3 n3 c3)).setCell ⟨(w.heap.size + 3), 2, none⟩ (.int .i64 gv2)) = w3 at *
    replace OX : Hid (Own (((w3.setCell ⟨(w.heap.size + 2), 0, none⟩ (.slice A2 n2 c2)).setCell ⟨(w.heap.size + 2), 1, none⟩ (.slice A3 n3 c3)).setCell ⟨(w.heap.size + 2), 2, none⟩ (.int .i64 gv2)) w.heap.size 25 [.slice A n c, .slice A' m c', .int .i64 gv]) := Lib.hid (((OX.out.far (p := ⟨(w.heap.size + 2), 0, none⟩) (by first | omega | (simp; omega) | simp) (.slice A2 n2 c2)).far (p := ⟨(w.heap.size + 2), 1, none⟩) (by first | omega | (simp; omega) | simp) (.slice A3 n3 c3)).far (p := ⟨(w.heap.size + 2), 2, none⟩) (by first | omega | (simp; omega) | simp) (.int .i64 gv2))
    replace OA : Hid (Own (((w3.setCell ⟨(w.heap.size + 2), 0, none⟩ (.slice A2 n2 c2)).setCell ⟨(w.heap.size + 2), 1, none⟩ (.slice A3 n3 c3)).setCell ⟨(w.heap.size + 2), 2, none⟩ (.int .i64 gv2)) (w.heap.size + 1) 68 [.int .i64 ak, .int .i64 an, .int .i64 am, .string nm, .string tn]) := Lib.hid (((OA.out.far (p := ⟨(w.heap.size + 2), 0, none⟩) (by first | omega | (simp; omega) | simp) (.slice A2 n2 c2)).far (p := ⟨(w.heap.size + 2), 1, none⟩) (by first | omega | (simp; omega) | simp) (.slice A3 n3 c3)).far (p := ⟨(w.heap.size + 2), 2, none⟩) (by first | omega | (simp; omega) | simp) (.int .i64 gv2))
    replace OR : Hid (Own (((w3.setCell ⟨(w.heap.size + 2), 0, none⟩ (.slice A2 n2 c2)).setCell ⟨(w.heap.size + 2), 1, none⟩ (.slice A3 n3 c3)).setCell ⟨(w.heap.size + 2), 2, none⟩ (.int .i64 gv2)) (w.heap.size + 2) 25 [.slice A2 n2 c2, .slice A3 n3 c3, .int .i64 gv2]) := Lib.hid (((OR.out.set_ 0 (.slice A2 n2 c2)).set_ 1 (.slice A3 n3 c3)).set_ 2 (.int .i64 gv2))
    replace OY : Hid (Own (((w3.setCell ⟨(w.heap.size + 2), 0, none⟩ (.slice A2 n2 c2)).setCell ⟨(w.heap.size + 2), 1, none⟩ (.slice A3 n3 c3)).setCell ⟨(w.heap.size + 2), 2, none⟩ (.int .i64 gv2)) (w.heap.size + 3) 25 [.slice A2 n2 c2, .slice A3 n3 c3, .int .i64 gv2]) := Lib.hid (((OY.out.far (p := ⟨(w.heap.size + 2), 0, none⟩) (by first | omega | (simp; omega) | simp) (.slice A2 n2 c2)).far (p := ⟨(w.heap.size + 2), 1, none⟩) (by first | omega | (simp; omega) | simp) (.slice A3 n3 c3)).far (p := ⟨(w.heap.size + 2), 2, none⟩) (by first | omega | (simp; omega) | simp) (.int .i64 gv2))
    replace HX2 := Lib.hid (((HX2.out.put (p := ⟨(w.heap.size + 2), 0, none⟩) (by simp) (.slice A2 n2 c2)).put (p := ⟨(w.heap.size + 2), 1, none⟩) (by simp) (.slice A3 n3 c3)).put (p := ⟨(w.heap.size + 2), 2, none⟩) (by simp) (.int .i64 gv2))
    replace K := (((K.setCell (p := ⟨(w.heap.size + 2), 0, none⟩) (by first | exact Nat.le_refl _ | (simp only []; omega) | simp) (.slice A2 n2 c2)).setCell (p := ⟨(w.heap.size + 2), 1, none⟩) (by first | exact Nat.le_refl _ | (simp only []; omega) | simp) (.slice A3 n3 c3)).setCell (p := ⟨(w.heap.size + 2), 2, none⟩) (by first | exact Nat.le_refl _ | (simp only []; omega) | simp) (.int .i64 gv2))
    generalize (((w3.setCell ⟨(w.heap.size + 2), 0, none⟩ (.slice A2 n2 c2)).setCell ⟨(w.heap.size + 2), 1, none⟩ (.slice A3 n3 c3)).setCell ⟨(w.heap.size + 2), 2, none⟩ (.int .i64 gv2)) = w4 at *
    obtain ⟨cX0, cX1, cX2, fX0, fX1, fX2⟩ := OX.out.three
    have cA0 := OA.out.cell? 0
    have fA0 := OA.out.frozen 0
    have cA1 := OA.out.cell? 1
    have fA1 := OA.out.frozen 1
    have cA2 := OA.out.cell? 2
    have fA2 := OA.out.frozen 2
    have cA3 := OA.out.cell? 3
    have fA3 := OA.out.frozen 3
    have cA4 := OA.out.cell? 4
    have fA4 := OA.out.frozen 4
    simp only [List.getElem?_cons_zero, List.getElem?_cons_succ] at cA0 cA1 cA2 cA3 cA4
    obtain ⟨cR0, cR1, cR2, fR0, fR1, fR2⟩ := OR.out.three
    obtain ⟨cY0, cY1, cY2, fY0, fY1, fY2⟩ := OY.out.three
    refine bodyPost_ret (v := .agg #[.slice A2 n2 c2, .slice A3 n3 c3, .int .i64 gv2]) (by simp [results, Try.results30, go_sem, cR0, cR1, cR2]) rfl ?_
    exact ⟨_, rfl, by rw [doneR, HAC.out, if_pos rfl]; exact HX2.out.go (Kept.refl _) (fun k hk => .inl (List.mem_cons_of_mem _ (List.mem_cons_of_mem _ hk))), K⟩
  · have he' : (er != 0) = true := bne_t he
    go_wp2
    clear cX0 cX1 cX2 fX0 fX1 fX2 cA0 cA1 cA2 cA3 cA4 fA0 fA1 fA2 fA3 fA4 cR0 cR1 cR2 fR0 fR1 fR2 cY0 cY1 cY2 fY0 fY1 fY2
    replace OX : Hid (Own (((w2.setCell ⟨(w.heap.size + 3), 0, none⟩ (.slice A2 n2 c2)).setCell ⟨(w.heap.size + 3), 1, none⟩ (.slice A3 n3 c3)).setCell ⟨(w.heap.size + 3), 2, none⟩ (.int .i64 gv2)) w.heap.size 25 [.slice A n c, .slice A' m c', .int .i64 gv]) := Lib.hid (((OX.out.far (p := ⟨(w.heap.size + 3), 0, none⟩) (by first | omega | (simp; omega) | simp) (.slice A2 n2 c2)).far (p := ⟨(w.heap.size + 3), 1, none⟩) (by first | omega | (simp; omega) | simp) (.slice A3 n3 c3)).far (p := ⟨(w.heap.size + 3), 2, none⟩) (by first | omega | (simp; omega) | simp) (.int .i64 gv2))
    replace OA : Hid (Own (((w2.setCell ⟨(w.heap.size + 3), 0, none⟩ (.slice A2 n2 c2)).setCell ⟨(w.heap.size + 3), 1, none⟩ (.slice A3 n3 c3)).setCell ⟨(w.heap.size + 3), 2, none⟩ (.int .i64 gv2)) (w.heap.size + 1) 68 [.int .i64 ak, .int .i64 an, .int .i64 am, .string nm, .string tn]) := Lib.hid (((OA.out.far (p := ⟨(w.heap.size + 3), 0, none⟩) (by first | omega | (simp; omega) | simp) (.slice A2 n2 c2)).far (p := ⟨(w.heap.size + 3), 1, none⟩) (by first | omega | (simp; omega) | simp) (.slice A3 n3 c3)).far (p := ⟨(w.heap.size + 3), 2, none⟩) (by first | omega | (simp; omega) | simp) (.int .i64 gv2))
    replace OR : Hid (Own (((w2.setCell ⟨(w.heap.size + 3), 0, none⟩ (.slice A2 n2 c2)).setCell ⟨(w.heap.size + 3), 1, none⟩ (.slice A3 n3 c3)).setCell ⟨(w.heap.size + 3), 2, none⟩ (.int .i64 gv2)) (w.heap.size + 2) 25 [.slice none 0 0, .slice none 0 0, .int .i64 0]) := Lib.hid (((OR.out.far (p := ⟨(w.heap.size + 3), 0, none⟩) (by first | omega | (simp; omega) | simp) (.slice A2 n2 c2)).far (p := ⟨(w.heap.size + 3), 1, none⟩) (by first | omega | (simp; omega) | simp) (.slice A3 n3 c3)).far (p := ⟨(w.heap.size + 3), 2, none⟩) (by first | omega | (simp; omega) | simp) (.int .i64 gv2))
    replace OY : Hid (Own (((w2.setCell ⟨(w.heap.size + 3), 0, none⟩ (.slice A2 n2 c2)).setCell ⟨(w.heap.size + 3), 1, none⟩ (.slice A3 n3 c3)).setCell ⟨(w.heap.size + 3), 2, none⟩ (.int .i64 gv2)) (w.heap.size + 3) 25 [.slice A2 n2 c2, .slice A3 n3 c3, .int .i64 gv2]) := Lib.hid (((OY.out.set_ 0 (.slice A2 n2 c2)).set_ 1 (.slice A3 n3 c3)).set_ 2 (.int .i64 gv2))
    replace HX2 := Lib.hid (((HX2.out.put (p := ⟨(w.heap.size + 3), 0, none⟩) (by simp) (.slice A2 n2 c2)).put (p := ⟨(w.heap.size + 3), 1, none⟩) (by simp) (.slice A3 n3 c3)).put (p := ⟨(w.heap.size + 3), 2, none⟩) (by simp) (.int .i64 gv2))
    replace K := (((K.setCell (p := ⟨(w.heap.size + 3), 0, none⟩) (by first | exact Nat.le_refl _ | (simp only []; omega) | simp) (.slice A2 n2 c2)).setCell (p := ⟨(w.heap.size + 3), 1, none⟩) (by first | exact Nat.le_refl _ | (simp only []; omega) | simp) (.slice A3 n3 c3)).setCell (p := ⟨(w.heap.size + 3), 2, none⟩) (by first | exact Nat.le_refl _ | (simp only []; omega) | simp) (.int .i64 gv2))
    generalize (((w2.setCell ⟨(w.heap.size + 3), 0, none⟩ (.slice A2 n2 c2)).setCell ⟨(w.heap.size + 3), 1, none⟩ (.slice A3 n3 c3)).setCell ⟨(w.heap.size + 3), 2, none⟩ (.int .i64 gv2)) = w3 at *
    replace OX : Hid (Own (((w3.setCell ⟨(w.heap.size + 2), 0, none⟩ (.slice A n c)).setCell ⟨(w.heap.size + 2), 1, none⟩ (.slice A' m c')).setCell ⟨(w.heap.size + 2), 2, none⟩ (.int .i64 gv)) w.heap.size 25 [.slice A n c, .slice A' m c', .int .i64 gv]) := Lib.hid (((OX.out.far (p := ⟨(w.heap.size + 2), 0, none⟩) (by first | omega | (simp; omega) | simp) (.slice A n c)).far (p := ⟨(w.heap.size + 2), 1, none⟩) (by first | omega | (simp; omega) | simp) (.slice A' m c')).far (p := ⟨(w.heap.size + 2), 2, none⟩) (by first | omega | (simp; omega) | simp) (.int .i64 gv))
    replace OA : Hid (Own (((w3.setCell ⟨(w.heap.size + 2), 0, none⟩ (.slice A n c)).setCell ⟨(w.heap.size + 2), 1, none⟩ (.slice A' m c')).setCell ⟨(w.heap.size + 2), 2, none⟩ (.int .i64 gv)) (w.heap.size + 1) 68 [.int .i64 ak, .int .i64 an, .int .i64 am, .string nm, .string tn]) := Lib.hid (((OA.out.far (p := ⟨(w.heap.size + 2), 0, none⟩) (by first | omega | (simp; omega) | simp) (.slice A n c)).far (p := ⟨(w.heap.size + 2), 1, none⟩) (by first | omega | (simp; omega) | simp) (.slice A' m c')).far (p := ⟨(w.heap.size + 2), 2, none⟩) (by first | omega | (simp; omega) | simp) (.int .i64 gv))
    replace OR : Hid (Own (((w3.setCell ⟨(w.heap.size + 2), 0, none⟩ (.slice A n c)).setCell ⟨(w.heap.size + 2), 1, none⟩ (.slice A' m c')).setCell ⟨(w.heap.size + 2), 2, none⟩ (.int .i64 gv)) (w.heap.size + 2) 25 [.slice A n c, .slice A' m c', .int .i64 gv]) := Lib.hid (((OR.out.set_ 0 (.slice A n c)).set_ 1 (.slice A' m c')).set_ 2 (.int .i64 gv))
    replace OY : Hid (Own (((w3.setCell ⟨(w.heap.size + 2), 0, none⟩ (.slice A n c)).setCell ⟨(w.heap.size + 2), 1, none⟩ (.slice A' m c')).setCell ⟨(w.heap.size + 2), 2, none⟩ (.int .i64 gv)) (w.heap.size + 3) 25 [.slice A2 n2 c2, .slice A3 n3 c3, .int .i64 gv2]) := Lib.hid (((OY.out.far (p := ⟨(w.heap.size + 2), 0, none⟩) (by first | omega | (simp; omega) | simp) (.slice A n c)).far (p := ⟨(w.heap.size + 2), 1, none⟩) (by first | omega | (simp; omega) | simp) (.slice A' m c')).far (p := ⟨(w.heap.size + 2), 2, none⟩) (by first | omega | (simp; omega) | simp) (.int .i64 gv))
    replace HX2 := Lib.hid (((HX2.out.put (p := ⟨(w.heap.size + 2), 0, none⟩) (by simp) (.slice A n c)).put (p := ⟨(w.heap.size + 2), 1, none⟩) (by simp) (.slice A' m c')).put (p := ⟨(w.heap.size + 2), 2, none⟩) (by simp) (.int .i64 gv))
    replace K := (((K.setCell (p := ⟨(w.heap.size + 2), 0, none⟩) (by first | exact Nat.le_refl _ | (simp only []; omega) | simp) (.slice A n c)).setCell (p := ⟨(w.heap.size + 2), 1, none⟩) (by first | exact Nat.le_refl _ | (simp only []; omega) | simp) (.slice A' m c')).setCell (p := ⟨(w.heap.size + 2), 2, none⟩) (by first | exact Nat.le_refl _ | (simp only []; omega) | simp) (.int .i64 gv))
    generalize (((w3.setCell ⟨(w.heap.size + 2), 0, none⟩ (.slice A n c)).setCell ⟨(w.heap.size + 2), 1, none⟩ (.slice A' m c')).setCell ⟨(w.heap.size + 2), 2, none⟩ (.int .i64 gv)) = w4 at *
    obtain ⟨cX0, cX1, cX2, fX0, fX1, fX2⟩ := OX.out.three
    have cA0 := OA.out.cell? 0
    have fA0 := OA.out.frozen 0
    have cA1 := OA.out.cell? 1
    have fA1 := OA.out.frozen 1
    have cA2 := OA.out.cell? 2
    have fA2 := OA.out.frozen 2
    have cA3 := OA.out.cell? 3
    have fA3 := OA.out.frozen 3
    have cA4 := OA.out.cell? 4
    have fA4 := OA.out.frozen 4
    simp only [List.getElem?_cons_zero, List.getElem?_cons_succ] at cA0 cA1 cA2 cA3 cA4
    obtain ⟨cR0, cR1, cR2, fR0, fR1, fR2⟩ := OR.out.three
    obtain ⟨cY0, cY1, cY2, fY0, fY1, fY2⟩ := OY.out.three
    refine bodyPost_ret (v := .agg #[.slice A n c, .slice A' m c', .int .i64 gv]) (by simp [results, Try.results30, go_sem, cR0, cR1, cR2]) rfl ?_
    exact ⟨_, rfl, by rw [doneR, HAC.out, if_neg he]; exact HV.out.go K (Ext.refl _ _), K⟩

set_option maxRecDepth 100000 in
set_option maxHeartbeats 1000000 in
theorem done_7 (V : List Nat) (x : Ix) (v : Value) (ak an am : Int) (nm tn : ByteArray) (w : World) (hV : Old V w) (h : IxAt V w v x) (hok : IxOk x) (hns : nm.size ≤ maxLen) (hts : tn.size ≤ maxLen) (han : I64 an) (hkd : kindOf ak = 7) :
    Calls Try.prog 30 #[v, .agg #[.int .i64 ak, .int .i64 an, .int .i64 am, .string nm, .string tn]] w (IxRet1 V (doneR x 7 an am nm tn) w) := by
  have HV := Lib.hid h
  have HOV := Lib.hid hV
  have HOK := Lib.hid hok
  have HNS := Lib.hid hns
  have HTS := Lib.hid hts
  have HAN := Lib.hid han
  have HKD := Lib.hid hkd
  obtain ⟨A, c, A', c', rfl, hc1, hc2, hc3, hc4, hbx, hrow⟩ := (h.weak (U := []) (fun _ hk => by cases hk)).open_
  have HROW := Lib.hid hrow
  clear hbx hrow h hok hV hns hts han hkd
  unfold maxLen at hc2 hc4
  generalize hn : x.boxes.length = n at *
  generalize hm : x.subs.length = m at *
  generalize hg : x.given = gv at *
  have HN := Lib.hid hn
  have HM := Lib.hid hm
  have HG := Lib.hid hg
  clear hn hm hg
  have hkk := HKD.out
  unfold kindOf at hkk
  have tk0 : ((IntKind.u64.wrap ak).tmod 8 == 0) = false := beq_f (by omega)
  have tk1 : ((IntKind.u64.wrap ak).tmod 8 == 1) = false := beq_f (by omega)
  have tk2 : ((IntKind.u64.wrap ak).tmod 8 == 2) = false := beq_f (by omega)
  have tk3 : ((IntKind.u64.wrap ak).tmod 8 == 3) = false := beq_f (by omega)
  have tk4 : ((IntKind.u64.wrap ak).tmod 8 == 4) = false := beq_f (by omega)
  have tk5 : ((IntKind.u64.wrap ak).tmod 8 == 5) = false := beq_f (by omega)
  have tk6 : ((IntKind.u64.wrap ak).tmod 8 == 6) = false := beq_f (by omega)
  have tk7 : ((IntKind.u64.wrap ak).tmod 8 == 7) = true := beq_t hkk
  clear hkk
  go_enter Try.func30, Try.ntmps30
  go_wp2_with fail
  have OX := Lib.hid ((((Own.newAt w w.heap.size 25 [.slice A n c, .slice A' m c', .int .i64 gv] (by simp)).alloc (.cells #[.int .i64 ak, .int .i64 an, .int .i64 am, .string nm, .string tn] 68)).alloc (.cells #[.slice none 0 0, .slice none 0 0, .int .i64 0] 25)).alloc (.cells #[.slice A n c, .slice A' m c', .int .i64 gv] 25))
  have OA := Lib.hid (((Own.newAt (w.alloc (.cells #[.slice A n c, .slice A' m c', .int .i64 gv] 25)) (w.heap.size + 1) 68 [.int .i64 ak, .int .i64 an, .int .i64 am, .string nm, .string tn] (by simp)).alloc (.cells #[.slice none 0 0, .slice none 0 0, .int .i64 0] 25)).alloc (.cells #[.slice A n c, .slice A' m c', .int .i64 gv] 25))
  have OR := Lib.hid ((Own.newAt ((w.alloc (.cells #[.slice A n c, .slice A' m c', .int .i64 gv] 25)).alloc (.cells #[.int .i64 ak, .int .i64 an, .int .i64 am, .string nm, .string tn] 68)) (w.heap.size + 2) 25 [.slice none 0 0, .slice none 0 0, .int .i64 0] (by simp)).alloc (.cells #[.slice A n c, .slice A' m c', .int .i64 gv] 25))
  have OY := Lib.hid (Own.newAt (((w.alloc (.cells #[.slice A n c, .slice A' m c', .int .i64 gv] 25)).alloc (.cells #[.int .i64 ak, .int .i64 an, .int .i64 am, .string nm, .string tn] 68)).alloc (.cells #[.slice none 0 0, .slice none 0 0, .int .i64 0] 25)) (w.heap.size + 3) 25 [.slice A n c, .slice A' m c', .int .i64 gv] (by simp))
  have K := (((((Kept.refl w).alloc (.cells #[.slice A n c, .slice A' m c', .int .i64 gv] 25)).alloc (.cells #[.int .i64 ak, .int .i64 an, .int .i64 am, .string nm, .string tn] 68)).alloc (.cells #[.slice none 0 0, .slice none 0 0, .int .i64 0] 25)).alloc (.cells #[.slice A n c, .slice A' m c', .int .i64 gv] 25))
  generalize ((((w.alloc (.cells #[.slice A n c, .slice A' m c', .int .i64 gv] 25)).alloc (.cells #[.int .i64 ak, .int .i64 an, .int .i64 am, .string nm, .string tn] 68)).alloc (.cells #[.slice none 0 0, .slice none 0 0, .int .i64 0] 25)).alloc (.cells #[.slice A n c, .slice A' m c', .int .i64 gv] 25)) = w1 at *
  obtain ⟨cX0, cX1, cX2, fX0, fX1, fX2⟩ := OX.out.three
  have cA0 := OA.out.cell? 0
  have fA0 := OA.out.frozen 0
  have cA1 := OA.out.cell? 1
  have fA1 := OA.out.frozen 1
  have cA2 := OA.out.cell? 2
  have fA2 := OA.out.frozen 2
  have cA3 := OA.out.cell? 3
  have fA3 := OA.out.frozen 3
  have cA4 := OA.out.cell? 4
  have fA4 := OA.out.frozen 4
  simp only [List.getElem?_cons_zero, List.getElem?_cons_succ] at cA0 cA1 cA2 cA3 cA4
  obtain ⟨cR0, cR1, cR2, fR0, fR1, fR2⟩ := OR.out.three
  obtain ⟨cY0, cY1, cY2, fY0, fY1, fY2⟩ := OY.out.three
  have zX1 := OX.out.lt
  have zA1 := OA.out.lt
  have zR1 := OR.out.lt
  have zY1 := OY.out.lt
  have zK1 := K.size
  refine (cop_any ((w.heap.size + 2) :: (w.heap.size + 3) :: V) x _ nm an tn _ (Old.cons OR.out.lt (Old.cons OY.out.lt (HOV.out.go K))) (HV.out.go K (Ext.cons (by omega) (Ext.cons (by omega) (Ext.refl _ _)))) HOK.out).mono ?_
  rintro e w2 ⟨v2, rfl, hx2, hk⟩
  clear cX0 cX1 cX2 fX0 fX1 fX2 cA0 cA1 cA2 cA3 cA4 fA0 fA1 fA2 fA3 fA4 cR0 cR1 cR2 fR0 fR1 fR2 cY0 cY1 cY2 fY0 fY1 fY2
  replace OX := Lib.hid (OX.out.kept hk)
  replace OA := Lib.hid (OA.out.kept hk)
  replace OR := Lib.hid (OR.out.kept hk)
  replace OY := Lib.hid (OY.out.kept hk)
  replace K := K.trans hk
  have HX2 := Lib.hid hx2
  obtain ⟨A2, c2, A3, c3, rfl⟩ := hx2.form
  clear hx2
  clear hk
  have HAC : Hid (actR x 7 an am nm tn = ((copR x nm an tn).1, (copR x nm an tn).2.2)) := rfl
  generalize (copR x nm an tn).1 = y at *
  generalize (copR x nm an tn).2.2 = er at *
  generalize (copR x nm an tn).2.1 = uu at *
  generalize y.boxes.length = n2 at HX2 ⊢
  generalize y.subs.length = n3 at HX2 ⊢
  generalize y.given = gv2 at HX2 ⊢
  obtain ⟨cX0, cX1, cX2, fX0, fX1, fX2⟩ := OX.out.three
  have cA0 := OA.out.cell? 0
  have fA0 := OA.out.frozen 0
  have cA1 := OA.out.cell? 1
  have fA1 := OA.out.frozen 1
  have cA2 := OA.out.cell? 2
  have fA2 := OA.out.frozen 2
  have cA3 := OA.out.cell? 3
  have fA3 := OA.out.frozen 3
  have cA4 := OA.out.cell? 4
  have fA4 := OA.out.frozen 4
  simp only [List.getElem?_cons_zero, List.getElem?_cons_succ] at cA0 cA1 cA2 cA3 cA4
  obtain ⟨cR0, cR1, cR2, fR0, fR1, fR2⟩ := OR.out.three
  obtain ⟨cY0, cY1, cY2, fY0, fY1, fY2⟩ := OY.out.three
  by_cases he : er = 0
  · subst he
    go_wp2
    clear cX0 cX1 cX2 fX0 fX1 fX2 cA0 cA1 cA2 cA3 cA4 fA0 fA1 fA2 fA3 fA4 cR0 cR1 cR2 fR0 fR1 fR2 cY0 cY1 cY2 fY0 fY1 fY2
    replace OX : Hid (Own (((w2.setCell ⟨(w.heap.size + 3), 0, none⟩ (.slice A2 n2 c2)).setCell ⟨(w.heap.size + 3), 1, none⟩ (.slice A3 n3 c3)).setCell ⟨(w.heap.size + 3), 2, none⟩ (.int .i64 gv2)) w.heap.size 25 [.slice A n c, .slice A' m c', .int .i64 gv]) := Lib.hid (((OX.out.far (p := ⟨(w.heap.size + 3), 0, none⟩) (by first | omega | (simp; omega) | simp) (.slice A2 n2 c2)).far (p := ⟨(w.heap.size + 3), 1, none⟩) (by first | omega | (simp; omega) | simp) (.slice A3 n3 c3)).far (p := ⟨(w.heap.size + 3), 2, none⟩) (by first | omega | (simp; omega) | simp) (.int .i64 gv2))
    replace OA : Hid (Own (((w2.setCell ⟨(w.heap.size + 3), 0, none⟩ (.slice A2 n2 c2)).setCell ⟨(w.heap.size + 3), 1, none⟩ (.slice A3 n3 c3)).setCell ⟨(w.heap.size + 3), 2, none⟩ (.int .i64 gv2)) (w.heap.size + 1) 68 [.int .i64 ak, .int .i64 an, .int .i64 am, .string nm, .string tn]) := Lib.hid (((OA.out.far (p := ⟨(w.heap.size + 3), 0, none⟩) (by first | omega | (simp; omega) | simp) (.slice A2 n2 c2)).far (p := ⟨(w.heap.size + 3), 1, none⟩) (by first | omega | (simp; omega) | simp) (.slice A3 n3 c3)).far (p := ⟨(w.heap.size + 3), 2, none⟩) (by first | omega | (simp; omega) | simp) (.int .i64 gv2))
    replace OR : Hid (Own (((w2.setCell ⟨(w.heap.size + 3), 0, none⟩ (.slice A2 n2 c2)).setCell ⟨(w.heap.size + 3), 1, none⟩ (.slice A3 n3 c3)).setCell ⟨(w.heap.size + 3), 2, none⟩ (.int .i64 gv2)) (w.heap.size + 2) 25 [.slice none 0 0, .slice none 0 0, .int .i64 0]) := Lib.hid (((OR.out.far (p := ⟨(w.heap.size + 3), 0, none⟩) (by first | omega | (simp; omega) | simp) (.slice A2 n2 c2)).far (p := ⟨(w.heap.size + 3), 1, none⟩) (by first | omega | (simp; omega) | simp) (.slice A3 n3 c3)).far (p := ⟨(w.heap.size + 3), 2, none⟩) (by first | omega | (simp; omega) | simp) (.int .i64 gv2))
    replace OY : Hid (Own (((w2.setCell ⟨(w.heap.size + 3), 0, none⟩ (.slice A2 n2 c2)).setCell ⟨(w.heap.size + 3), 1, none⟩ (.slice A3 n3 c3)).setCell ⟨(w.heap.size + 3), 2, none⟩ (.int .i64 gv2)) (w.heap.size + 3) 25 [.slice A2 n2 c2, .slice A3 n3 c3, .int .i64 gv2]) := Lib.hid (((OY.out.set_ 0 (.slice A2 n2 c2)).set_ 1 (.slice A3 n3 c3)).set_ 2 (.int .i64 gv2))
    replace HX2 := Lib.hid (((HX2.out.put (p := ⟨(w.heap.size + 3), 0, none⟩) (by simp) (.slice A2 n2 c2)).put (p := ⟨(w.heap.size + 3), 1, none⟩) (by simp) (.slice A3 n3 c3)).put (p := ⟨(w.heap.size + 3), 2, none⟩) (by simp) (.int .i64 gv2))
    replace K := (((K.setCell (p := ⟨(w.heap.size + 3), 0, none⟩) (by first | exact Nat.le_refl _ | (simp only []; omega) | simp) (.slice A2 n2 c2)).setCell (p := ⟨(w.heap.size + 3), 1, none⟩) (by first | exact Nat.le_refl _ | (simp only []; omega) | simp) (.slice A3 n3 c3)).setCell (p := ⟨(w.heap.size + 3), 2, none⟩) (by first | exact Nat.le_refl _ | (simp only []; omega) | simp) (.int .i64 gv2))
    generalize (((w2.setCell ⟨(w.heap.size + 3), 0, none⟩ (.slice A2 n2 c2)).setCell ⟨(w.heap.size + 3), 1, none⟩ (.slice A3 n3 c3)).setCell ⟨(w.heap.size + 3), 2, none⟩ (.int .i64 gv2)) = w3 at *
    replace OX : Hid (Own (((w3.setCell ⟨(w.heap.size + 2), 0, none⟩ (.slice A2 n2 c2)).setCell ⟨(w.heap.size + 2), 1, none⟩ (.slice A3 n3 c3)).setCell ⟨(w.heap.size + 2), 2, none⟩ (.int .i64 gv2)) w.heap.size 25 [.slice A n c, .slice A' m c', .int .i64 gv]) := Lib.hid (((OX.out.far (p := ⟨(w.heap.size + 2), 0, none⟩) (by first | omega | (simp; omega) | simp) (.slice A2 n2 c2)).far (p := ⟨(w.heap.size + 2), 1, none⟩) (by first | omega | (simp; omega) | simp) (.slice A3 n3 c3)).far (p := ⟨(w.heap.size + 2), 2, none⟩) (by first | omega | (simp; omega) | simp) (.int .i64 gv2))
    replace OA : Hid (Own (((w3.setCell ⟨(w.heap.size + 2), 0, none⟩ (.slice A2 n2 c2)).setCell ⟨(w.heap.size + 2), 1, none⟩ (.slice A3 n3 c3)).setCell ⟨(w.heap.size + 2), 2, none⟩ (.int .i64 gv2)) (w.heap.size + 1) 68 [.int .i64 ak, .int .i64 an, .int .i64 am, .string nm, .string tn]) := Lib.hid (((OA.out.far (p := ⟨(w.heap.size + 2), 0, none⟩) (by first | omega | (simp; omega) | simp) (.slice A2 n2 c2)).far (p := ⟨(w.heap.size + 2), 1, none⟩) (by first | omega | (simp; omega) | simp) (.slice A3 n3 c3)).far (p := ⟨(w.heap.size + 2), 2, none⟩) (by first | omega | (simp; omega) | simp) (.int .i64 gv2))
    replace OR : Hid (Own (((w3.setCell ⟨(w.heap.size + 2), 0, none⟩ (.slice A2 n2 c2)).setCell ⟨(w.heap.size + 2), 1, none⟩ (.slice A3 n3 c3)).setCell ⟨(w.heap.size + 2), 2, none⟩ (.int .i64 gv2)) (w.heap.size + 2) 25 [.slice A2 n2 c2, .slice A3 n3 c3, .int .i64 gv2]) := Lib.hid (((OR.out.set_ 0 (.slice A2 n2 c2)).set_ 1 (.slice A3 n3 c3)).set_ 2 (.int .i64 gv2))
    replace OY : Hid (Own (((w3.setCell ⟨(w.heap.size + 2), 0, none⟩ (.slice A2 n2 c2)).setCell ⟨(w.heap.size + 2), 1, none⟩ (.slice A3 n3 c3)).setCell ⟨(w.heap.size + 2), 2, none⟩ (.int .i64 gv2)) (w.heap.size + 3) 25 [.slice A2 n2 c2, .slice A3 n3 c3, .int .i64 gv2]) := Lib.hid (((OY.out.far (p := ⟨(w.heap.size + 2), 0, none⟩) (by first | omega | (simp; omega) | simp) (.slice A2 n2 c2)).far (p := ⟨(w.heap.size + 2), 1, none⟩) (by first | omega | (simp; omega) | simp) (.slice A3 n3 c3)).far (p := ⟨(w.heap.size + 2), 2, none⟩) (by first | omega | (simp; omega) | simp) (.int .i64 gv2))
    replace HX2 := Lib.hid (((HX2.out.put (p := ⟨(w.heap.size + 2), 0, none⟩) (by simp) (.slice A2 n2 c2)).put (p := ⟨(w.heap.size + 2), 1, none⟩) (by simp) (.slice A3 n3 c3)).put (p := ⟨(w.heap.size + 2), 2, none⟩) (by simp) (.int .i64 gv2))
    replace K := (((K.setCell (p := ⟨(w.heap.size + 2), 0, none⟩) (by first | exact Nat.le_refl _ | (simp only []; omega) | simp) (.slice A2 n2 c2)).setCell (p := ⟨(w.heap.size + 2), 1, none⟩) (by first | exact Nat.le_refl _ | (simp only []; omega) | simp) (.slice A3 n3 c3)).setCell (p := ⟨(w.heap.size + 2), 2, none⟩) (by first | exact Nat.le_refl _ | (simp only []; omega) | simp) (.int .i64 gv2))
    generalize (((w3.setCell ⟨(w.heap.size + 2), 0, none⟩ (.slice A2 n2 c2)).setCell ⟨(w.heap.size + 2), 1, none⟩ (.slice A3 n3 c3)).setCell ⟨(w.heap.size + 2), 2, none⟩ (.int .i64 gv2)) = w4 at *
    obtain ⟨cX0, cX1, cX2, fX0, fX1, fX2⟩ := OX.out.three
    have cA0 := OA.out.cell? 0
    have fA0 := OA.out.frozen 0
    have cA1 := OA.out.cell? 1
    have fA1 := OA.out.frozen 1
    have cA2 := OA.out.cell? 2
    have fA2 := OA.out.frozen 2
    have cA3 := OA.out.cell? 3
    have fA3 := OA.out.frozen 3
    have cA4 := OA.out.cell? 4
    have fA4 := OA.out.frozen 4
    simp only [List.getElem?_cons_zero, List.getElem?_cons_succ] at cA0 cA1 cA2 cA3 cA4
    obtain ⟨cR0, cR1, cR2, fR0, fR1, fR2⟩ := OR.out.three
    obtain ⟨cY0, cY1, cY2, fY0, fY1, fY2⟩ := OY.out.three
    refine bodyPost_ret (v := .agg #[.slice A2 n2 c2, .slice A3 n3 c3, .int .i64 gv2]) (by simp [results, Try.results30, go_sem, cR0, cR1, cR2]) rfl ?_
    exact ⟨_, rfl, by rw [doneR, HAC.out, if_pos rfl]; exact HX2.out.go (Kept.refl _) (fun k hk => .inl (List.mem_cons_of_mem _ (List.mem_cons_of_mem _ hk))), K⟩
  · have he' : (er != 0) = true := bne_t he
    go_wp2
    clear cX0 cX1 cX2 fX0 fX1 fX2 cA0 cA1 cA2 cA3 cA4 fA0 fA1 fA2 fA3 fA4 cR0 cR1 cR2 fR0 fR1 fR2 cY0 cY1 cY2 fY0 fY1 fY2
    replace OX : Hid (Own (((w2.setCell ⟨(w.heap.size + 3), 0, none⟩ (.slice A2 n2 c2)).setCell ⟨(w.heap.size + 3), 1, none⟩ (.slice A3 n3 c3)).setCell ⟨(w.heap.size + 3), 2, none⟩ (.int .i64 gv2)) w.heap.size 25 [.slice A n c, .slice A' m c', .int .i64 gv]) := Lib.hid (((OX.out.far (p := ⟨(w.heap.size + 3), 0, none⟩) (by first | omega | (simp; omega) | simp) (.slice A2 n2 c2)).far (p := ⟨(w.heap.size + 3), 1, none⟩) (by first | omega | (simp; omega) | simp) (.slice A3 n3 c3)).far (p := ⟨(w.heap.size + 3), 2, none⟩) (by first | omega | (simp; omega) | simp) (.int .i64 gv2))
    replace OA : Hid (Own (((w2.setCell ⟨(w.heap.size + 3), 0, none⟩ (.slice A2 n2 c2)).setCell ⟨(w.heap.size + 3), 1, none⟩ (.slice A3 n3 c3)).setCell ⟨(w.heap.size + 3), 2, none⟩ (.int .i64 gv2)) (w.heap.size + 1) 68 [.int .i64 ak, .int .i64 an, .int .i64 am, .string nm, .string tn]) := Lib.hid (((OA.out.far (p := ⟨(w.heap.size + 3), 0, none⟩) (by first | omega | (simp; omega) | simp) (.slice A2 n2 c2)).far (p := ⟨(w.heap.size + 3), 1, none⟩) (by first | omega | (simp; omega) | simp) (.slice A3 n3 c3)).far (p := ⟨(w.heap.size + 3), 2, none⟩) (by first | omega | (simp; omega) | simp) (.int .i64 gv2))
    replace OR : Hid (Own (((w2.setCell ⟨(w.heap.size + 3), 0, none⟩ (.slice A2 n2 c2)).setCell ⟨(w.heap.size + 3), 1, none⟩ (.slice A3 n3 c3)).setCell ⟨(w.heap.size + 3), 2, none⟩ (.int .i64 gv2)) (w.heap.size + 2) 25 [.slice none 0 0, .slice none 0 0, .int .i64 0]) := Lib.hid (((OR.out.far (p := ⟨(w.heap.size + 3), 0, none⟩) (by first | omega | (simp; omega) | simp) (.slice A2 n2 c2)).far (p := ⟨(w.heap.size + 3), 1, none⟩) (by first | omega | (simp; omega) | simp) (.slice A3 n3 c3)).far (p := ⟨(w.heap.size + 3), 2, none⟩) (by first | omega | (simp; omega) | simp) (.int .i64 gv2))
    replace OY : Hid (Own (((w2.setCell ⟨(w.heap.size + 3), 0, none⟩ (.slice A2 n2 c2)).setCell ⟨(w.heap.size + 3), 1, none⟩ (.slice A3 n3 c3)).setCell ⟨(w.heap.size + 3), 2, none⟩ (.int .i64 gv2)) (w.heap.size + 3) 25 [.slice A2 n2 c2, .slice A3 n3 c3, .int .i64 gv2]) := Lib.hid (((OY.out.set_ 0 (.slice A2 n2 c2)).set_ 1 (.slice A3 n3 c3)).set_ 2 (.int .i64 gv2))
    replace HX2 := Lib.hid (((HX2.out.put (p := ⟨(w.heap.size + 3), 0, none⟩) (by simp) (.slice A2 n2 c2)).put (p := ⟨(w.heap.size + 3), 1, none⟩) (by simp) (.slice A3 n3 c3)).put (p := ⟨(w.heap.size + 3), 2, none⟩) (by simp) (.int .i64 gv2))
    replace K := (((K.setCell (p := ⟨(w.heap.size + 3), 0, none⟩) (by first | exact Nat.le_refl _ | (simp only []; omega) | simp) (.slice A2 n2 c2)).setCell (p := ⟨(w.heap.size + 3), 1, none⟩) (by first | exact Nat.le_refl _ | (simp only []; omega) | simp) (.slice A3 n3 c3)).setCell (p := ⟨(w.heap.size + 3), 2, none⟩) (by first | exact Nat.le_refl _ | (simp only []; omega) | simp) (.int .i64 gv2))
    generalize (((w2.setCell ⟨(w.heap.size + 3), 0, none⟩ (.slice A2 n2 c2)).setCell ⟨(w.heap.size + 3), 1, none⟩ (.slice A3 n3 c3)).setCell ⟨(w.heap.size + 3), 2, none⟩ (.int .i64 gv2)) = w3 at *
    replace OX : Hid (Own (((w3.setCell ⟨(w.heap.size + 2), 0, none⟩ (.slice A n c)).setCell ⟨(w.heap.size + 2), 1, none⟩ (.slice A' m c')).setCell ⟨(w.heap.size + 2), 2, none⟩ (.int .i64 gv)) w.heap.size 25 [.slice A n c, .slice A' m c', .int .i64 gv]) := Lib.hid (((OX.out.far (p := ⟨(w.heap.size + 2), 0, none⟩) (by first | omega | (simp; omega) | simp) (.slice A n c)).far (p := ⟨(w.heap.size + 2), 1, none⟩) (by first | omega | (simp; omega) | simp) (.slice A' m c')).far (p := ⟨(w.heap.size + 2), 2, none⟩) (by first | omega | (simp; omega) | simp) (.int .i64 gv))
    replace OA : Hid (Own (((w3.setCell ⟨(w.heap.size + 2), 0, none⟩ (.slice A n c)).setCell ⟨(w.heap.size + 2), 1, none⟩ (.slice A' m c')).setCell ⟨(w.heap.size + 2), 2, none⟩ (.int .i64 gv)) (w.heap.size + 1) 68 [.int .i64 ak, .int .i64 an, .int .i64 am, .string nm, .string tn]) := Lib.hid (((OA.out.far (p := ⟨(w.heap.size + 2), 0, none⟩) (by first | omega | (simp; omega) | simp) (.slice A n c)).far (p := ⟨(w.heap.size + 2), 1, none⟩) (by first | omega | (simp; omega) | simp) (.slice A' m c')).far (p := ⟨(w.heap.size + 2), 2, none⟩) (by first | omega | (simp; omega) | simp) (.int .i64 gv))
    replace OR : Hid (Own (((w3.setCell ⟨(w.heap.size + 2), 0, none⟩ (.slice A n c)).setCell ⟨(w.heap.size + 2), 1, none⟩ (.slice A' m c')).setCell ⟨(w.heap.size + 2), 2, none⟩ (.int .i64 gv)) (w.heap.size + 2) 25 [.slice A n c, .slice A' m c', .int .i64 gv]) := Lib.hid (((OR.out.set_ 0 (.slice A n c)).set_ 1 (.slice A' m c')).set_ 2 (.int .i64 gv))
    replace OY : Hid (Own (((w3.setCell ⟨(w.heap.size + 2), 0, none⟩ (.slice A n c)).setCell ⟨(w.heap.size + 2), 1, none⟩ (.slice A' m c')).setCell ⟨(w.heap.size + 2), 2, none⟩ (.int .i64 gv)) (w.heap.size + 3) 25 [.slice A2 n2 c2, .slice A3 n3 c3, .int .i64 gv2]) := Lib.hid (((OY.out.far (p := ⟨(w.heap.size + 2), 0, none⟩) (by first | omega | (simp; omega) | simp) (.slice A n c)).far (p := ⟨(w.heap.size + 2), 1, none⟩) (by first | omega | (simp; omega) | simp) (.slice A' m c')).far (p := ⟨(w.heap.size + 2), 2, none⟩) (by first | omega | (simp; omega) | simp) (.int .i64 gv))
    replace HX2 := Lib.hid (((HX2.out.put (p := ⟨(w.heap.size + 2), 0, none⟩) (by simp) (.slice A n c)).put (p := ⟨(w.heap.size + 2), 1, none⟩) (by simp) (.slice A' m c')).put (p := ⟨(w.heap.size + 2), 2, none⟩) (by simp) (.int .i64 gv))
    replace K := (((K.setCell (p := ⟨(w.heap.size + 2), 0, none⟩) (by first | exact Nat.le_refl _ | (simp only []; omega) | simp) (.slice A n c)).setCell (p := ⟨(w.heap.size + 2), 1, none⟩) (by first | exact Nat.le_refl _ | (simp only []; omega) | simp) (.slice A' m c')).setCell (p := ⟨(w.heap.size + 2), 2, none⟩) (by first | exact Nat.le_refl _ | (simp only []; omega) | simp) (.int .i64 gv))
    generalize (((w3.setCell ⟨(w.heap.size + 2), 0, none⟩ (.slice A n c)).setCell ⟨(w.heap.size + 2), 1, none⟩ (.slice A' m c')).setCell ⟨(w.heap.size + 2), 2, none⟩ (.int .i64 gv)) = w4 at *
    obtain ⟨cX0, cX1, cX2, fX0, fX1, fX2⟩ := OX.out.three
    have cA0 := OA.out.cell? 0
    have fA0 := OA.out.frozen 0
    have cA1 := OA.out.cell? 1
    have fA1 := OA.out.frozen 1
    have cA2 := OA.out.cell? 2
    have fA2 := OA.out.frozen 2
    have cA3 := OA.out.cell? 3
    have fA3 := OA.out.frozen 3
    have cA4 := OA.out.cell? 4
    have fA4 := OA.out.frozen 4
    simp only [List.getElem?_cons_zero, List.getElem?_cons_succ] at cA0 cA1 cA2 cA3 cA4
    obtain ⟨cR0, cR1, cR2, fR0, fR1, fR2⟩ := OR.out.three
    obtain ⟨cY0, cY1, cY2, fY0, fY1, fY2⟩ := OY.out.three
    refine bodyPost_ret (v := .agg #[.slice A n c, .slice A' m c', .int .i64 gv]) (by simp [results, Try.results30, go_sem, cR0, cR1, cR2]) rfl ?_
    exact ⟨_, rfl, by rw [doneR, HAC.out, if_neg he]; exact HV.out.go K (Ext.refl _ _), K⟩

end Go.Proofs.Ytjinnkbnllnllaa
