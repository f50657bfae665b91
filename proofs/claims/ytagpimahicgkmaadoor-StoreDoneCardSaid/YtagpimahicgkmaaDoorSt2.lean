/- Walk: mailsacklaw12.last. -/
import Derived.Test.YtagpimahicgkmaaDoorSt1
namespace Go.Proofs.YtagpimahicgkmaaDoor
open Go.RowKit

def chg0 : Chg := ⟨{ data := #[] }, { data := #[] }, false⟩
def lastS (n : ByteArray) (r : Chg × Bool) (c : Chg) : Chg × Bool := if c.name.toList == n.toList then (c, true) else r
def lastL (n : ByteArray) (l : List Chg) : Chg × Bool := l.foldl (lastS n) (chg0, false)
theorem last_succ {n : ByteArray} {l : List Chg} {k : Nat} (h : k < l.length) : lastL n (l.take (k + 1)) = lastS n (lastL n (l.take k)) l[k] := by
  unfold lastL
  rw [List.take_succ_eq_append_getElem h, List.foldl_append]; rfl

set_option maxRecDepth 100000 in
set_option maxHeartbeats 2000000 in
theorem last_any (l : List Chg) (n : ByteArray) (v : Value) (w : World) (h : ChgsAt [] w v l) :
    Calls Tryd.prog 37 #[v, .string n] w fun e w' => e = .returned (.tuple #[.agg (chgC (lastL n l).1).toArray, .bool (lastL n l).2]) ∧ Kept w w' := by
  obtain ⟨CA, cc, rfl, hc1, hc2, hcr⟩ := h
  unfold maxLen at hc2
  have HCR := Lib.hid hcr
  clear hcr
  go_enter Tryd.func37, Tryd.ntmps37
  go_wp2_with fail
  have OR := Lib.hid ((Own.newAt w w.heap.size 69 [.string { data := #[] }, .string { data := #[] }, .bool false] (by simp)).alloc (.cells #[.string { data := #[] }, .string { data := #[] }, .bool false] 69))
  have OO := Lib.hid (Own.newAt (w.alloc (.cells #[.string { data := #[] }, .string { data := #[] }, .bool false] 69)) (w.heap.size + 1) 69 [.string { data := #[] }, .string { data := #[] }, .bool false] (by simp))
  have K := (((Kept.refl w).alloc (.cells #[.string { data := #[] }, .string { data := #[] }, .bool false] 69)).alloc (.cells #[.string { data := #[] }, .string { data := #[] }, .bool false] 69))
  generalize ((w.alloc (.cells #[.string { data := #[] }, .string { data := #[] }, .bool false] 69)).alloc (.cells #[.string { data := #[] }, .string { data := #[] }, .bool false] 69)) = w1 at *
  obtain ⟨cR0, cR1, cR2, fR0, fR1, fR2⟩ := OR.out.three
  obtain ⟨cO0, cO1, cO2, fO0, fO1, fO2⟩ := OO.out.three
  clear cR0 cR1 cR2 fR0 fR1 fR2 cO0 cO1 cO2 fO0 fO1 fO2
  have hkw := K.size
  have HOL := Lib.hid OO.out.lt
  generalize hs : w.heap.size = s at *
  have HS := Lib.hid hs
  clear hs
  go_wp2_with fail
  go_loopw [7, 13] (fun tv iv wq => ∃ (k : Nat), k ≤ l.length ∧ iv = .int .i64 k ∧ ∃ (c : Chg) (b : Bool), lastL n (l.take k) = (c, b) ∧ tv = .bool b ∧ Own wq s 69 [.string { data := #[] }, .string { data := #[] }, .bool false] ∧ Own wq (s + 1) 69 (chgC c) ∧ Kept w wq) (fun _ iv _ => l.length - (intOf iv).toNat)
  case atStart => exact ⟨0, Nat.zero_le _, rfl, chg0, false, by rw [List.take_zero]; rfl, rfl, OR.out, OO.out, K⟩
  case round =>
    clear OR OO K
    obtain ⟨k, hk, rfl, oc, ob, hl, rfl, hor, hoo, K⟩ := hrel
    have OR := Lib.hid hor
    have OO := Lib.hid hoo
    have HL := Lib.hid hl
    clear hor hoo hl
    by_cases hlt : k < l.length
    · obtain ⟨cb, co, rfl, hcb, _, hcc⟩ := HCR.out (by rw [chg_len]; omega)
      have g0 := (K.cell (p := ⟨cb, co + k * 3, none⟩) hcb).trans (hcc (k * 3) _ ((chg_at hlt 0 (by omega)).trans rfl))
      have g1 := (K.cell (p := ⟨cb, co + k * 3 + 1, none⟩) hcb).trans (hcc (k * 3 + 1) _ ((chg_at hlt 1 (by omega)).trans rfl))
      have g2 := (K.cell (p := ⟨cb, co + k * 3 + 2, none⟩) hcb).trans (hcc (k * 3 + 2) _ ((chg_at hlt 2 (by omega)).trans rfl))
      clear hcc
      have HSU : Hid (lastL n (l.take (k + 1)) = lastS n (oc, ob) l[k]) := by show _ = _; rw [last_succ hlt, HL.out]
      generalize l[k] = c at *
      obtain ⟨nm, x, rm⟩ := c
      simp only at g0 g1 g2
      obtain ⟨on, ox, om⟩ := oc
      have z1 := OO.out.lt
      have z2 := OR.out.lt
      rcases Bool.eq_false_or_eq_true (nm.toList == n.toList) with hb | hb
      · have HE : Hid (lastL n (l.take (k + 1)) = (⟨nm, x, rm⟩, true)) := by show _ = _; rw [HSU.out]; unfold lastS; rw [if_pos hb]
        clear HSU
        go_upto_region 6 with fail
        have OO2 := OO.out.alloc (.cells #[.string nm, .string x, .bool rm] 69)
        have OR2 := OR.out.alloc (.cells #[.string nm, .string x, .bool rm] 69)
        have K2 := K.alloc (.cells #[.string nm, .string x, .bool rm] 69)
        have OC := Own.new wr 69 [.string nm, .string x, .bool rm]
        clear g0 g1 g2 z1 z2 OO OR K hcb
        generalize wr.heap.size = gc at *
        generalize (wr.alloc (.cells #[.string nm, .string x, .bool rm] 69)) = wv at *
        have q0 := OO2.cell? 0
        have q1 := OO2.cell? 1
        have q2 := OO2.cell? 2
        have f0 := OO2.frozen 0
        have f1 := OO2.frozen 1
        have f2 := OO2.frozen 2
        have p0 := OC.cell? 0
        have p1 := OC.cell? 1
        have p2 := OC.cell? 2
        simp only [chgC, List.getElem?_cons_zero, List.getElem?_cons_succ] at q0 q1 q2 p0 p1 p2
        replace OO2 := Lib.hid OO2
        replace OR2 := Lib.hid OR2
        clear OC
        go_wp2
        go_roundw
        case rel =>
          clear q0 q1 q2 f0 f1 f2 p0 p1 p2
          exact ⟨k + 1, by omega, by go_num, ⟨nm, x, rm⟩, true, HE.out, rfl, ((OR2.out.far (p := ⟨s + 1, 0, none⟩) (by simp) _).far (p := ⟨s + 1, 1, none⟩) (by simp) _).far (p := ⟨s + 1, 2, none⟩) (by simp) _, ((OO2.out.set_ 0 _).set_ 1 _).set_ 2 _, ((K2.setCell (p := ⟨s + 1, 0, none⟩) (by have := HS.out; show w.heap.size ≤ s + 1; omega) _).setCell (p := ⟨s + 1, 1, none⟩) (by have := HS.out; show w.heap.size ≤ s + 1; omega) _).setCell (p := ⟨s + 1, 2, none⟩) (by have := HS.out; show w.heap.size ≤ s + 1; omega) _⟩
        case measure => simp [intOf]; omega
      · have HE : Hid (lastL n (l.take (k + 1)) = (⟨on, ox, om⟩, ob)) := by show _ = _; rw [HSU.out]; unfold lastS; rw [hb]; rfl
        clear HSU
        go_wp2
        go_roundw
        case rel => exact ⟨k + 1, by omega, by go_num, ⟨on, ox, om⟩, ob, HE.out, rfl, OR.out.alloc _, OO.out.alloc _, K.alloc _⟩
        case measure => simp [intOf]; omega
    · have HE : Hid (lastL n l = (oc, ob)) := by
        show _ = _
        have := HL.out
        rwa [List.take_of_length_le (by omega)] at this
      clear HL
      obtain ⟨on, ox, om⟩ := oc
      have q0 := OO.out.cell? 0
      have q1 := OO.out.cell? 1
      have q2 := OO.out.cell? 2
      simp only [chgC, List.getElem?_cons_zero, List.getElem?_cons_succ] at q0 q1 q2
      have f0 := OR.out.frozen 0
      have f1 := OR.out.frozen 1
      have f2 := OR.out.frozen 2
      have r0 := OR.out.cell? 0
      have r1 := OR.out.cell? 1
      have r2 := OR.out.cell? 2
      simp only [List.getElem?_cons_zero, List.getElem?_cons_succ] at r0 r1 r2
      have z1 := OO.out.lt
      have z2 := OR.out.lt
      go_wp2
      have OR9 := (((OR.out.set_ 0 (.string on)).set_ 1 (.string ox)).set_ 2 (.bool om))
      have K9 := ((K.setCell (p := ⟨s, 0, none⟩) (by have := HS.out; show w.heap.size ≤ s; omega) (.string on)).setCell (p := ⟨s, 1, none⟩) (by have := HS.out; show w.heap.size ≤ s; omega) (.string ox)).setCell (p := ⟨s, 2, none⟩) (by have := HS.out; show w.heap.size ≤ s; omega) (.bool om)
      clear q0 q1 q2 f0 f1 f2 r0 r1 r2
      generalize (((wr.setCell ⟨s, 0, none⟩ (.string on)).setCell ⟨s, 1, none⟩ (.string ox)).setCell ⟨s, 2, none⟩ (.bool om)) = w9 at *
      have q0 := OR9.cell? 0
      have q1 := OR9.cell? 1
      have q2 := OR9.cell? 2
      simp only [List.set_cons_zero, List.set_cons_succ, List.getElem?_cons_zero, List.getElem?_cons_succ] at q0 q1 q2
      refine bodyPost_ret (v := .tuple #[.agg #[.string on, .string ox, .bool om], .bool ob]) (by simp [results, Tryd.results37, go_sem, q0, q1, q2]) rfl ?_
      exact ⟨by rw [HE.out]; rfl, K9⟩
end Go.Proofs.YtagpimahicgkmaaDoor
