/- Walk: mailsackref15.Find, Get. -/
import Derived.Test.YtjinnkbnllnllaaIxFind
import Derived.Test.YtjinnkbnllnllaaIxCopy
import Derived.Test.YtjinnkbnllnllaaElem
namespace Go.Proofs.Ytjinnkbnllnllaa
open Go.RowKit

set_option maxRecDepth 100000 in
set_option maxHeartbeats 1000000 in
theorem rfind_any (x : Ix) (v : Value) (nm : ByteArray) (w : World) (h : IxAt [] w v x) :
    Calls Try.prog 43 #[v, .string nm] w fun e w' => e = .returned (.int .i64 (ofO (findX x nm))) ∧ Kept w w' := by
  obtain ⟨A, c, A', c', rfl, hc1, hc2, hc3, hc4, hbx, hrow⟩ := h.open_
  have HBX := Lib.hid hbx
  clear hbx hrow h
  unfold maxLen at hc2 hc4
  generalize hn : x.boxes.length = n at *
  generalize hm : x.subs.length = m at *
  generalize hg : x.given = gv at *
  have HN := Lib.hid hn
  clear hn hm hg
  go_enter Try.func43, Try.ntmps43
  go_wp2_with fail
  have OX := Lib.hid (Own.newAt w w.heap.size 29 [.slice A n c, .slice A' m c', .int .i64 gv] (by simp))
  have K := ((Kept.refl w).alloc (.cells #[.slice A n c, .slice A' m c', .int .i64 gv] 29))
  generalize (w.alloc (.cells #[.slice A n c, .slice A' m c', .int .i64 gv] 29)) = w1 at *
  obtain ⟨cX0, cX1, cX2, fX0, fX1, fX2⟩ := OX.out.three
  go_loop [5] (fun iv => ∃ k : Nat, k ≤ n ∧ iv = .int .i64 k ∧ Hid (∀ j, j < k → findP x nm j = false)) (fun iv => n - (intOf iv).toNat)
  case atStart => exact ⟨0, Nat.zero_le _, rfl, fun j hj => by omega⟩
  case round =>
    obtain ⟨k, hk, rfl, HJ⟩ := hrel
    by_cases hlt : k < n
    · obtain ⟨b, o, mv, rfl, hb, _, hbc⟩ := HBX.out (by omega)
      obtain ⟨g1, _⟩ := hbc.go hb K (Ext.refl _ _) k (by rw [HN.out]; exact hlt)
      have HFP : Hid (findP x nm k = ((x.boxes[k]'(by rw [HN.out]; exact hlt)).name.toList == nm.toList)) := by show _ = _; unfold findP nmEq; rw [bxAt_lt]
      generalize (x.boxes[k]'(by rw [HN.out]; exact hlt)).name = s at *
      clear hbc
      have k0 : (0 : Int) ≤ (k : Int) := by omega
      have k1 : (k : Int) < (n : Int) := by omega
      obtain ⟨pe, hpe⟩ : ∃ p, (s.toList == nm.toList) = p := ⟨_, rfl⟩
      have HPE : Hid (findP x nm k = pe) := HFP.out.trans hpe
      cases pe with
      | true =>
        have HFX : Hid (findX x nm = some k) := findTo_some HPE.out HJ.out (by rw [HN.out]; exact hlt)
        go_wp2
        go_ret
        exact ⟨ret_int (by rw [HFX.out]; rfl), K⟩
      | false =>
        go_wp2
        go_round
        case rel =>
          refine ⟨k + 1, by omega, by go_num, fun j hj => ?_⟩
          by_cases e : j = k
          · subst e; exact HPE.out
          · exact HJ.out j (by omega)
        case measure => simp [intOf]; omega
    · have HFX : Hid (findX x nm = none) := findTo_none (fun j hj => HJ.out j (by rw [HN.out] at hj; omega))
      go_wp2
      go_ret
      exact ⟨ret_int (by rw [HFX.out]; rfl), K⟩

/-- A message; false: there is none. -/
def getR (x : Ix) (nm : ByteArray) (uid : Int) : Ml × Bool :=
  match findX x nm with
  | none => (ml0, false)
  | some a => match findM (bxAt x a).mails uid with
    | none => (ml0, false)
    | some k => (mlAt (bxAt x a).mails k, true)
def GetPost (r : Ml × Bool) (w : World) (e : Ending) (w' : World) : Prop :=
  e = .returned (.tuple #[.agg #[.int .i64 r.1.uid, .int .i64 r.1.flags, .int .i64 r.1.obj, .int .i64 r.1.size], .bool r.2]) ∧ Kept w w'
theorem getR_place (x : Ix) (nm : ByteArray) (uid : Int) : (getR x nm uid).2 = (placeR x nm uid).2.2 := by
  unfold getR placeR
  cases findX x nm with
  | none => rfl
  | some a =>
    simp only
    cases hm : findM (bxAt x a).mails uid with
    | none => simp [ofO]
    | some k => simp [ofO]

set_option maxRecDepth 100000 in
set_option maxHeartbeats 1000000 in
theorem get_no (V : List Nat) (x : Ix) (v : Value) (nm : ByteArray) (uid : Int) (w : World) (hV : Old V w) (h : IxAt V w v x) (hok : IxOk x) (hf : findX x nm = none) :
    Calls Try.prog 46 #[v, .string nm, .int .i64 uid] w (GetPost (getR x nm uid) w) := by
  have HEX : Hid (getR x nm uid = (ml0, false)) := by
    show _ = _
    unfold getR; rw [hf]
  have HV := Lib.hid h
  have HOV := Lib.hid hV
  have HOK := Lib.hid hok
  have HF := Lib.hid hf
  obtain ⟨A, c, A', c', rfl, hc1, hc2, hc3, hc4, hbx, hrow⟩ := (h.weak (U := []) (fun _ hk => by cases hk)).open_
  have HROW := Lib.hid hrow
  clear hbx hrow h hok hV hf
  unfold maxLen at hc2 hc4
  generalize hn : x.boxes.length = n at *
  generalize hm : x.subs.length = m at *
  generalize hg : x.given = gv at *
  have HN := Lib.hid hn
  have HM := Lib.hid hm
  have HG := Lib.hid hg
  clear hn hm hg
  go_enter Try.func46, Try.ntmps46
  go_wp2_with fail
  have OX := Lib.hid ((Own.newAt w w.heap.size 29 [.slice A n c, .slice A' m c', .int .i64 gv] (by simp)).alloc (.cells #[.int .i64 0, .int .i64 0, .int .i64 0, .int .i64 0] 73))
  have OR := Lib.hid (Own.newAt (w.alloc (.cells #[.slice A n c, .slice A' m c', .int .i64 gv] 29)) (w.heap.size + 1) 73 [.int .i64 0, .int .i64 0, .int .i64 0, .int .i64 0] (by simp))
  have K := (((Kept.refl w).alloc (.cells #[.slice A n c, .slice A' m c', .int .i64 gv] 29)).alloc (.cells #[.int .i64 0, .int .i64 0, .int .i64 0, .int .i64 0] 73))
  generalize ((w.alloc (.cells #[.slice A n c, .slice A' m c', .int .i64 gv] 29)).alloc (.cells #[.int .i64 0, .int .i64 0, .int .i64 0, .int .i64 0] 73)) = w1 at *
  obtain ⟨cX0, cX1, cX2, fX0, fX1, fX2⟩ := OX.out.three
  have cR0 := OR.out.cell? 0
  have fR0 := OR.out.frozen 0
  have cR1 := OR.out.cell? 1
  have fR1 := OR.out.frozen 1
  have cR2 := OR.out.cell? 2
  have fR2 := OR.out.frozen 2
  have cR3 := OR.out.cell? 3
  have fR3 := OR.out.frozen 3
  simp only [List.getElem?_cons_zero, List.getElem?_cons_succ] at cR0 cR1 cR2 cR3
  refine (rfind_any x _ nm _ (HV.out.go K (Ext.nil _ _))).mono ?_
  rintro e w2 ⟨rfl, hk⟩
  clear cX0 cX1 cX2 fX0 fX1 fX2 cR0 cR1 cR2 cR3 fR0 fR1 fR2 fR3
  replace OX := Lib.hid (OX.out.kept hk)
  replace OR := Lib.hid (OR.out.kept hk)
  replace K := K.trans hk
  rw [HF.out]
  rw [show ofO none = -1 from rfl]
  clear hk
  obtain ⟨cX0, cX1, cX2, fX0, fX1, fX2⟩ := OX.out.three
  have cR0 := OR.out.cell? 0
  have fR0 := OR.out.frozen 0
  have cR1 := OR.out.cell? 1
  have fR1 := OR.out.frozen 1
  have cR2 := OR.out.cell? 2
  have fR2 := OR.out.frozen 2
  have cR3 := OR.out.cell? 3
  have fR3 := OR.out.frozen 3
  simp only [List.getElem?_cons_zero, List.getElem?_cons_succ] at cR0 cR1 cR2 cR3
  go_wp2
  clear cX0 cX1 cX2 fX0 fX1 fX2 cR0 cR1 cR2 cR3 fR0 fR1 fR2 fR3
  replace OX : Hid (Own ((((w2.setCell ⟨(w.heap.size + 1), 0, none⟩ (.int .i64 0)).setCell ⟨(w.heap.size + 1), 1, none⟩ (.int .i64 0)).setCell ⟨(w.heap.size + 1), 2, none⟩ (.int .i64 0)).setCell ⟨(w.heap.size + 1), 3, none⟩ (.int .i64 0)) w.heap.size 29 [.slice A n c, .slice A' m c', .int .i64 gv]) := Lib.hid ((((OX.out.far (p := ⟨(w.heap.size + 1), 0, none⟩) (by first | omega | (simp; omega) | simp) (.int .i64 0)).far (p := ⟨(w.heap.size + 1), 1, none⟩) (by first | omega | (simp; omega) | simp) (.int .i64 0)).far (p := ⟨(w.heap.size + 1), 2, none⟩) (by first | omega | (simp; omega) | simp) (.int .i64 0)).far (p := ⟨(w.heap.size + 1), 3, none⟩) (by first | omega | (simp; omega) | simp) (.int .i64 0))
  replace OR : Hid (Own ((((w2.setCell ⟨(w.heap.size + 1), 0, none⟩ (.int .i64 0)).setCell ⟨(w.heap.size + 1), 1, none⟩ (.int .i64 0)).setCell ⟨(w.heap.size + 1), 2, none⟩ (.int .i64 0)).setCell ⟨(w.heap.size + 1), 3, none⟩ (.int .i64 0)) (w.heap.size + 1) 73 [.int .i64 0, .int .i64 0, .int .i64 0, .int .i64 0]) := Lib.hid ((((OR.out.set_ 0 (.int .i64 0)).set_ 1 (.int .i64 0)).set_ 2 (.int .i64 0)).set_ 3 (.int .i64 0))
  replace K := ((((K.setCell (p := ⟨(w.heap.size + 1), 0, none⟩) (by first | exact Nat.le_refl _ | (simp only []; omega) | simp) (.int .i64 0)).setCell (p := ⟨(w.heap.size + 1), 1, none⟩) (by first | exact Nat.le_refl _ | (simp only []; omega) | simp) (.int .i64 0)).setCell (p := ⟨(w.heap.size + 1), 2, none⟩) (by first | exact Nat.le_refl _ | (simp only []; omega) | simp) (.int .i64 0)).setCell (p := ⟨(w.heap.size + 1), 3, none⟩) (by first | exact Nat.le_refl _ | (simp only []; omega) | simp) (.int .i64 0))
  generalize ((((w2.setCell ⟨(w.heap.size + 1), 0, none⟩ (.int .i64 0)).setCell ⟨(w.heap.size + 1), 1, none⟩ (.int .i64 0)).setCell ⟨(w.heap.size + 1), 2, none⟩ (.int .i64 0)).setCell ⟨(w.heap.size + 1), 3, none⟩ (.int .i64 0)) = w3 at *
  obtain ⟨cX0, cX1, cX2, fX0, fX1, fX2⟩ := OX.out.three
  have cR0 := OR.out.cell? 0
  have fR0 := OR.out.frozen 0
  have cR1 := OR.out.cell? 1
  have fR1 := OR.out.frozen 1
  have cR2 := OR.out.cell? 2
  have fR2 := OR.out.frozen 2
  have cR3 := OR.out.cell? 3
  have fR3 := OR.out.frozen 3
  simp only [List.getElem?_cons_zero, List.getElem?_cons_succ] at cR0 cR1 cR2 cR3
  refine bodyPost_ret (v := .tuple #[.agg #[.int .i64 0, .int .i64 0, .int .i64 0, .int .i64 0], .bool false]) (by simp [results, Try.results46, go_sem, cR0, cR1, cR2, cR3]) rfl ?_
  exact ⟨by rw [HEX.out]; rfl, K⟩

set_option maxRecDepth 100000 in
set_option maxHeartbeats 1000000 in
theorem get_main (V : List Nat) (x : Ix) (v : Value) (a : Nat) (nm : ByteArray) (uid : Int) (w : World) (hV : Old V w) (h : IxAt V w v x) (hok : IxOk x) (hf : findX x nm = some a) (ha : a < x.boxes.length) :
    Calls Try.prog 46 #[v, .string nm, .int .i64 uid] w (GetPost (getR x nm uid) w) := by
  have HV := Lib.hid h
  have HOV := Lib.hid hV
  have HOK := Lib.hid hok
  have HF := Lib.hid hf
  obtain ⟨A, c, A', c', rfl, hc1, hc2, hc3, hc4, hbx, hrow⟩ := (h.weak (U := []) (fun _ hk => by cases hk)).open_
  obtain ⟨b, o, mv, rfl, hb, _, hbc⟩ := hbx (by omega)
  have HBC := Lib.hid hbc
  clear hbc
  have HROW := Lib.hid hrow
  clear hbx hrow h hok hV hf
  unfold maxLen at hc2 hc4
  generalize hn : x.boxes.length = n at *
  generalize hm : x.subs.length = m at *
  generalize hg : x.given = gv at *
  have HN := Lib.hid hn
  have HM := Lib.hid hm
  have HG := Lib.hid hg
  clear hn hm hg
  go_enter Try.func46, Try.ntmps46
  go_wp2_with fail
  have OX := Lib.hid ((Own.newAt w w.heap.size 29 [.slice (some ⟨b, o, none⟩) n c, .slice A' m c', .int .i64 gv] (by simp)).alloc (.cells #[.int .i64 0, .int .i64 0, .int .i64 0, .int .i64 0] 73))
  have OR := Lib.hid (Own.newAt (w.alloc (.cells #[.slice (some ⟨b, o, none⟩) n c, .slice A' m c', .int .i64 gv] 29)) (w.heap.size + 1) 73 [.int .i64 0, .int .i64 0, .int .i64 0, .int .i64 0] (by simp))
  have K := (((Kept.refl w).alloc (.cells #[.slice (some ⟨b, o, none⟩) n c, .slice A' m c', .int .i64 gv] 29)).alloc (.cells #[.int .i64 0, .int .i64 0, .int .i64 0, .int .i64 0] 73))
  generalize ((w.alloc (.cells #[.slice (some ⟨b, o, none⟩) n c, .slice A' m c', .int .i64 gv] 29)).alloc (.cells #[.int .i64 0, .int .i64 0, .int .i64 0, .int .i64 0] 73)) = w1 at *
  obtain ⟨cX0, cX1, cX2, fX0, fX1, fX2⟩ := OX.out.three
  have cR0 := OR.out.cell? 0
  have fR0 := OR.out.frozen 0
  have cR1 := OR.out.cell? 1
  have fR1 := OR.out.frozen 1
  have cR2 := OR.out.cell? 2
  have fR2 := OR.out.frozen 2
  have cR3 := OR.out.cell? 3
  have fR3 := OR.out.frozen 3
  simp only [List.getElem?_cons_zero, List.getElem?_cons_succ] at cR0 cR1 cR2 cR3
  refine (rfind_any x _ nm _ (HV.out.go K (Ext.nil _ _))).mono ?_
  rintro e w2 ⟨rfl, hk⟩
  clear cX0 cX1 cX2 fX0 fX1 fX2 cR0 cR1 cR2 cR3 fR0 fR1 fR2 fR3
  replace OX := Lib.hid (OX.out.kept hk)
  replace OR := Lib.hid (OR.out.kept hk)
  replace K := K.trans hk
  rw [HF.out]
  rw [show ofO (some a) = (a : Int) from rfl]
  clear hk
  obtain ⟨cX0, cX1, cX2, fX0, fX1, fX2⟩ := OX.out.three
  have cR0 := OR.out.cell? 0
  have fR0 := OR.out.frozen 0
  have cR1 := OR.out.cell? 1
  have fR1 := OR.out.frozen 1
  have cR2 := OR.out.cell? 2
  have fR2 := OR.out.frozen 2
  have cR3 := OR.out.cell? 3
  have fR3 := OR.out.frozen 3
  simp only [List.getElem?_cons_zero, List.getElem?_cons_succ] at cR0 cR1 cR2 cR3
  obtain ⟨_, _, _, g4, gm⟩ := HBC.out.go hb K (Ext.refl _ _) a (by rw [HN.out]; exact ha)
  obtain ⟨MA, mc, hmv⟩ := gm.form
  have gm0 := (HBC.out a (by rw [HN.out]; exact ha)).2.2.2.2
  rw [hmv] at g4 gm0
  have HAT : Hid (x.boxes[a]'(by rw [HN.out]; exact ha) = bxAt x a) := (bxAt_lt _).symm
  rw [HAT.out] at g4 gm0
  have HGM := Lib.hid gm0
  clear gm gm0 hmv HAT
  have a0 : (0 : Int) ≤ (a : Int) := by omega
  have a1 : (a : Int) < (n : Int) := by omega
  have hml : (bxAt x a).mails.length ≤ mc ∧ mc ≤ maxLen := by
    obtain ⟨_, _, e, e1, e2, _⟩ := HGM.out
    cases e; exact ⟨e1, e2⟩
  obtain ⟨hml1, hml2⟩ := hml
  unfold maxLen at hml2
  have HGE : Hid (getR x nm uid = match findM (bxAt x a).mails uid with | none => (ml0, false) | some k => (mlAt (bxAt x a).mails k, true)) := by
    show _ = _; unfold getR; rw [HF.out]
  generalize (bxAt x a).mails = l at *
  generalize hln : l.length = ln at *
  have HLN := Lib.hid hln
  clear hln
  go_wp2_with fail
  go_loopw [24] (fun iv wq => ∃ k : Nat, k ≤ ln ∧ iv = .int .i64 k ∧ Hid (∀ j, j < k → uidP l uid j = false) ∧ Own wq (w.heap.size + 1) 73 [.int .i64 0, .int .i64 0, .int .i64 0, .int .i64 0] ∧ Kept w wq) (fun iv _ => ln - (intOf iv).toNat)
  case atStart => exact ⟨0, Nat.zero_le _, rfl, fun j hj => by omega, OR.out, K⟩
  clear cX0 cX1 cX2 fX0 fX1 fX2 cR0 cR1 cR2 cR3 fR0 fR1 fR2 fR3
  case round =>
    clear OX OR K g4
    obtain ⟨k, hk, rfl, HJ, or, K⟩ := hrel
    have OR := Lib.hid or
    clear or
    by_cases hlt : k < ln
    · obtain ⟨mb, mo, rfl, hmb, _, g5, g6, g7, g8⟩ := (HGM.out.go K (Ext.refl _ _)).cells (k := k) (by rw [HLN.out]; exact hlt)
      have HU : Hid (uidP l uid k = ((mlAt l k).uid == uid)) := rfl
      have HSO : Hid (uidP l uid k = true → findM l uid = some k) := fun h => findTo_some h HJ.out (by rw [HLN.out]; exact hlt)
      generalize hmm : mlAt l k = ml at *
      have HMM := Lib.hid hmm
      clear hmm
      have k0 : (0 : Int) ≤ (k : Int) := by omega
      have k1 : (k : Int) < (ln : Int) := by omega
      have zR := OR.out.lt
      by_cases hu : ml.uid = uid
      · subst hu
        have cR0 := OR.out.cell? 0
        have fR0 := OR.out.frozen 0
        have cR1 := OR.out.cell? 1
        have fR1 := OR.out.frozen 1
        have cR2 := OR.out.cell? 2
        have fR2 := OR.out.frozen 2
        have cR3 := OR.out.cell? 3
        have fR3 := OR.out.frozen 3
        simp only [List.getElem?_cons_zero, List.getElem?_cons_succ] at cR0 cR1 cR2 cR3
        go_wp2
        clear cR0 cR1 cR2 cR3 fR0 fR1 fR2 fR3
        replace OR : Hid (Own ((((wr.setCell ⟨(w.heap.size + 1), 0, none⟩ (.int .i64 ml.uid)).setCell ⟨(w.heap.size + 1), 1, none⟩ (.int .i64 ml.flags)).setCell ⟨(w.heap.size + 1), 2, none⟩ (.int .i64 ml.obj)).setCell ⟨(w.heap.size + 1), 3, none⟩ (.int .i64 ml.size)) (w.heap.size + 1) 73 [.int .i64 ml.uid, .int .i64 ml.flags, .int .i64 ml.obj, .int .i64 ml.size]) := Lib.hid ((((OR.out.set_ 0 (.int .i64 ml.uid)).set_ 1 (.int .i64 ml.flags)).set_ 2 (.int .i64 ml.obj)).set_ 3 (.int .i64 ml.size))
        replace K := ((((K.setCell (p := ⟨(w.heap.size + 1), 0, none⟩) (by first | exact Nat.le_refl _ | (simp only []; omega) | simp) (.int .i64 ml.uid)).setCell (p := ⟨(w.heap.size + 1), 1, none⟩) (by first | exact Nat.le_refl _ | (simp only []; omega) | simp) (.int .i64 ml.flags)).setCell (p := ⟨(w.heap.size + 1), 2, none⟩) (by first | exact Nat.le_refl _ | (simp only []; omega) | simp) (.int .i64 ml.obj)).setCell (p := ⟨(w.heap.size + 1), 3, none⟩) (by first | exact Nat.le_refl _ | (simp only []; omega) | simp) (.int .i64 ml.size))
        generalize ((((wr.setCell ⟨(w.heap.size + 1), 0, none⟩ (.int .i64 ml.uid)).setCell ⟨(w.heap.size + 1), 1, none⟩ (.int .i64 ml.flags)).setCell ⟨(w.heap.size + 1), 2, none⟩ (.int .i64 ml.obj)).setCell ⟨(w.heap.size + 1), 3, none⟩ (.int .i64 ml.size)) = wz1 at *
        replace OR := Lib.hid (OR.out.alloc (.cells #[.int .i64 ml.uid, .int .i64 ml.flags, .int .i64 ml.obj, .int .i64 ml.size] 73))
        have OM := Lib.hid (Own.new wz1 73 [.int .i64 ml.uid, .int .i64 ml.flags, .int .i64 ml.obj, .int .i64 ml.size])
        replace K := K.alloc (.cells #[.int .i64 ml.uid, .int .i64 ml.flags, .int .i64 ml.obj, .int .i64 ml.size] 73)
        generalize (wz1.alloc (.cells #[.int .i64 ml.uid, .int .i64 ml.flags, .int .i64 ml.obj, .int .i64 ml.size] 73)) = wz2 at *
        have cR0 := OR.out.cell? 0
        have fR0 := OR.out.frozen 0
        have cR1 := OR.out.cell? 1
        have fR1 := OR.out.frozen 1
        have cR2 := OR.out.cell? 2
        have fR2 := OR.out.frozen 2
        have cR3 := OR.out.cell? 3
        have fR3 := OR.out.frozen 3
        simp only [List.getElem?_cons_zero, List.getElem?_cons_succ] at cR0 cR1 cR2 cR3
        refine bodyPost_ret (v := .tuple #[.agg #[.int .i64 ml.uid, .int .i64 ml.flags, .int .i64 ml.obj, .int .i64 ml.size], .bool true]) (by simp [results, Try.results46, go_sem, cR0, cR1, cR2, cR3]) rfl ?_
        exact ⟨by rw [HGE.out, HSO.out (by rw [HU.out]; simp)]; simp only [HMM.out], K⟩
      · have hu' : (ml.uid == uid) = false := beq_f hu
        go_wp2
        go_roundw
        case rel =>
          refine ⟨k + 1, by omega, by go_num, fun j hj => ?_, OR.out.alloc _, K.alloc _⟩
          by_cases e : j = k
          · subst e; rw [HU.out]; exact hu'
          · exact HJ.out j (by omega)
        case measure => simp [intOf]; omega
    · have HFX : Hid (findM l uid = none) := findTo_none (fun j hj => HJ.out j (by rw [HLN.out] at hj; omega))
      have cR0 := OR.out.cell? 0
      have fR0 := OR.out.frozen 0
      have cR1 := OR.out.cell? 1
      have fR1 := OR.out.frozen 1
      have cR2 := OR.out.cell? 2
      have fR2 := OR.out.frozen 2
      have cR3 := OR.out.cell? 3
      have fR3 := OR.out.frozen 3
      simp only [List.getElem?_cons_zero, List.getElem?_cons_succ] at cR0 cR1 cR2 cR3
      go_wp2
      clear cR0 cR1 cR2 cR3 fR0 fR1 fR2 fR3
      replace OR : Hid (Own ((((wr.setCell ⟨(w.heap.size + 1), 0, none⟩ (.int .i64 0)).setCell ⟨(w.heap.size + 1), 1, none⟩ (.int .i64 0)).setCell ⟨(w.heap.size + 1), 2, none⟩ (.int .i64 0)).setCell ⟨(w.heap.size + 1), 3, none⟩ (.int .i64 0)) (w.heap.size + 1) 73 [.int .i64 0, .int .i64 0, .int .i64 0, .int .i64 0]) := Lib.hid ((((OR.out.set_ 0 (.int .i64 0)).set_ 1 (.int .i64 0)).set_ 2 (.int .i64 0)).set_ 3 (.int .i64 0))
      replace K := ((((K.setCell (p := ⟨(w.heap.size + 1), 0, none⟩) (by first | exact Nat.le_refl _ | (simp only []; omega) | simp) (.int .i64 0)).setCell (p := ⟨(w.heap.size + 1), 1, none⟩) (by first | exact Nat.le_refl _ | (simp only []; omega) | simp) (.int .i64 0)).setCell (p := ⟨(w.heap.size + 1), 2, none⟩) (by first | exact Nat.le_refl _ | (simp only []; omega) | simp) (.int .i64 0)).setCell (p := ⟨(w.heap.size + 1), 3, none⟩) (by first | exact Nat.le_refl _ | (simp only []; omega) | simp) (.int .i64 0))
      generalize ((((wr.setCell ⟨(w.heap.size + 1), 0, none⟩ (.int .i64 0)).setCell ⟨(w.heap.size + 1), 1, none⟩ (.int .i64 0)).setCell ⟨(w.heap.size + 1), 2, none⟩ (.int .i64 0)).setCell ⟨(w.heap.size + 1), 3, none⟩ (.int .i64 0)) = wz1 at *
      have cR0 := OR.out.cell? 0
      have fR0 := OR.out.frozen 0
      have cR1 := OR.out.cell? 1
      have fR1 := OR.out.frozen 1
      have cR2 := OR.out.cell? 2
      have fR2 := OR.out.frozen 2
      have cR3 := OR.out.cell? 3
      have fR3 := OR.out.frozen 3
      simp only [List.getElem?_cons_zero, List.getElem?_cons_succ] at cR0 cR1 cR2 cR3
      refine bodyPost_ret (v := .tuple #[.agg #[.int .i64 0, .int .i64 0, .int .i64 0, .int .i64 0], .bool false]) (by simp [results, Try.results46, go_sem, cR0, cR1, cR2, cR3]) rfl ?_
      exact ⟨by rw [HGE.out, HFX.out]; rfl, K⟩

theorem rget_any (x : Ix) (v : Value) (nm : ByteArray) (uid : Int) (w : World) (h : IxAt [] w v x) (hok : IxOk x) :
    Calls Try.prog 46 #[v, .string nm, .int .i64 uid] w (GetPost (getR x nm uid) w) := by
  cases hf : findX x nm with
  | none => exact get_no [] x v nm uid w (fun _ hk => by cases hk) h hok hf
  | some a => exact get_main [] x v a nm uid w (fun _ hk => by cases hk) h hok hf (findTo_inv hf).1
end Go.Proofs.Ytjinnkbnllnllaa
