/- Walk: mailsackref15.turned. -/
import Derived.Test.YtjinnkbnllnllaaRxSorted
namespace Go.Proofs.Ytjinnkbnllnllaa
open Go.RowKit

def TurnPost (V : List Nat) (l : List Bp) (sv : Value) (g : Int) (w : World) (e : Ending) (w' : World) : Prop :=
  ∃ A c, e = .returned (.agg #[.slice A l.length c, sv, .int .i64 g]) ∧ l.length ≤ c ∧ c ≤ maxLen ∧ Row V w' A (bxs (sortTo l l.length)) ∧ Kept w w'

set_option maxRecDepth 100000 in
set_option maxHeartbeats 4000000 in
theorem turned_any (V : List Nat) (ps ls : List Bp) (A : Option Addr) (n c : Nat) (SA : Option Addr) (sn sc : Nat) (gv : Int) (at_ : Nat) (pb : Bx) (PA : Option Addr) (pn pc : Nat) (w : World) (hV : Old V w) (hn : ps.length = n) (hc1 : n ≤ c) (hc2 : c ≤ maxLen) (hl : n ≤ 100) (hrow : Row [] w A (bxs ps)) (hm : ∀ p ∈ ps, ∃ A n c, p.2 = .slice A n c)
    (hls : ls = ps.set at_ (pb, .slice PA pn pc)) :
    Calls Try.prog 44 #[.agg #[.slice A n c, .slice SA sn sc, .int .i64 gv], .int .i64 at_, .agg #[.string pb.name, .int .i64 pb.val, .int .i64 pb.next, .slice PA pn pc]] w (TurnPost V ls (.slice SA sn sc) gv w) := by
  have HROW := Lib.hid hrow
  have HOV := Lib.hid hV
  have HF := Lib.hid hm
  have HLS := Lib.hid hls
  have HN := Lib.hid hn
  have HLN : Hid (ls.length = n) := by show _ = _; rw [hls, List.length_set, hn]
  have HFL : Hid (∀ p ∈ ls, ∃ A n c, p.2 = .slice A n c) := fun p hp => by
    rw [hls] at hp
    rcases List.mem_or_eq_of_mem_set hp with hp | rfl
    · exact hm p hp
    · exact ⟨_, _, _, rfl⟩
  unfold maxLen at hc2
  clear hrow hV hm hls hn
  go_enter Try.func44, Try.ntmps44
  go_wp2_with fail
  have OX := Lib.hid (((Own.newAt w w.heap.size 29 [.slice A n c, .slice SA sn sc, .int .i64 gv] (by simp)).alloc (.cells #[.string pb.name, .int .i64 pb.val, .int .i64 pb.next, .slice PA pn pc] 43)).alloc (.cells #[.slice none 0 0, .slice none 0 0, .int .i64 0] 29))
  have OY := Lib.hid ((Own.newAt (w.alloc (.cells #[.slice A n c, .slice SA sn sc, .int .i64 gv] 29)) (w.heap.size + 1) 43 [.string pb.name, .int .i64 pb.val, .int .i64 pb.next, .slice PA pn pc] (by simp)).alloc (.cells #[.slice none 0 0, .slice none 0 0, .int .i64 0] 29))
  have OR := Lib.hid (Own.newAt ((w.alloc (.cells #[.slice A n c, .slice SA sn sc, .int .i64 gv] 29)).alloc (.cells #[.string pb.name, .int .i64 pb.val, .int .i64 pb.next, .slice PA pn pc] 43)) (w.heap.size + 2) 29 [.slice none 0 0, .slice none 0 0, .int .i64 0] (by simp))
  have K := ((((Kept.refl w).alloc (.cells #[.slice A n c, .slice SA sn sc, .int .i64 gv] 29)).alloc (.cells #[.string pb.name, .int .i64 pb.val, .int .i64 pb.next, .slice PA pn pc] 43)).alloc (.cells #[.slice none 0 0, .slice none 0 0, .int .i64 0] 29))
  generalize (((w.alloc (.cells #[.slice A n c, .slice SA sn sc, .int .i64 gv] 29)).alloc (.cells #[.string pb.name, .int .i64 pb.val, .int .i64 pb.next, .slice PA pn pc] 43)).alloc (.cells #[.slice none 0 0, .slice none 0 0, .int .i64 0] 29)) = w1 at *
  obtain ⟨cX0, cX1, cX2, fX0, fX1, fX2⟩ := OX.out.three
  have cY0 := OY.out.cell? 0
  have fY0 := OY.out.frozen 0
  have cY1 := OY.out.cell? 1
  have fY1 := OY.out.frozen 1
  have cY2 := OY.out.cell? 2
  have fY2 := OY.out.frozen 2
  have cY3 := OY.out.cell? 3
  have fY3 := OY.out.frozen 3
  simp only [List.getElem?_cons_zero, List.getElem?_cons_succ] at cY0 cY1 cY2 cY3
  obtain ⟨cR0, cR1, cR2, fR0, fR1, fR2⟩ := OR.out.three
  go_loopw [7, 8] (fun lv iv wq => ∃ (k : Nat) (B : Option Addr) (b : Nat), k ≤ n ∧ iv = .int .i64 k ∧ lv = .slice B k b ∧ Own wq w.heap.size 29 [.slice A n c, .slice SA sn sc, .int .i64 gv] ∧ Own wq (w.heap.size + 1) 43 [.string pb.name, .int .i64 pb.val, .int .i64 pb.next, .slice PA pn pc] ∧ Own wq (w.heap.size + 2) 29 [.slice none 0 0, .slice none 0 0, .int .i64 0] ∧ wq.ownsRow (w.heap.size + 3) 43 4 (.slice B k b) k (bxs (ls.take k)) ∧ Kept w wq) (fun _ iv _ => n - (intOf iv).toNat)
  case atStart => exact ⟨0, none, 0, Nat.zero_le _, rfl, rfl, OX.out, OY.out, OR.out, World.ownsRow_nil _ _ _ _, K⟩
  case round =>
    clear cX0 cX1 cX2 fX0 fX1 fX2 cY0 cY1 cY2 cY3 fY0 fY1 fY2 fY3 cR0 cR1 cR2 fR0 fR1 fR2
    clear OX OY OR K
    obtain ⟨k, B, b, hk, rfl, rfl, ox, oy, or, hown, K⟩ := hrel
    have OX := Lib.hid ox
    have OY := Lib.hid oy
    have OR := Lib.hid or
    have HL := Lib.hid hown
    clear ox oy or hown
    have zX := OX.out.lt
    have zY := OY.out.lt
    have zR := OR.out.lt
    have k0 : (0 : Int) ≤ (k : Int) := by omega
    obtain ⟨cX0, cX1, cX2, fX0, fX1, fX2⟩ := OX.out.three
    have cY0 := OY.out.cell? 0
    have fY0 := OY.out.frozen 0
    have cY1 := OY.out.cell? 1
    have fY1 := OY.out.frozen 1
    have cY2 := OY.out.cell? 2
    have fY2 := OY.out.frozen 2
    have cY3 := OY.out.cell? 3
    have fY3 := OY.out.frozen 3
    simp only [List.getElem?_cons_zero, List.getElem?_cons_succ] at cY0 cY1 cY2 cY3
    obtain ⟨cR0, cR1, cR2, fR0, fR1, fR2⟩ := OR.out.three
    by_cases hlt : k < n
    · by_cases hat : k = at_
      · subst hat
        have HEL : Hid (ls[k]'(by rw [HLN.out]; exact hlt) = (pb, .slice PA pn pc)) := by show _ = _; simp only [HLS.out, List.getElem_set_self]
        have HTL : Hid ((ls.take k).length = k) := by show _ = _; rw [List.length_take, HLN.out]; omega
        have HTS : Hid (ls.take k ++ [(pb, Value.slice PA pn pc)] = ls.take (k + 1)) := by show _ = _; rw [← take_snoc ls k (by rw [HLN.out]; exact hlt), HEL.out]
        have HB4 := Lib.hid (fun bb (hb : (Value.slice B k b).ownBlock = some bb) => (ownBlock_of HL.out hb).1)
        go_wp2_with (at_builtin; go_must (
          refine Try.elRb.wpList_app rfl (.tmp 19) (.tmp 21) rfl (w.heap.size + 3) (.slice B k b) (ls.take k) rfl (by rw [HTL.out]; exact HL.out.alloc _) [] (some ⟨wr.heap.size, 0, none⟩) 1 [(pb, Value.slice PA pn pc)] rfl ((Own.new wr _ [.string pb.name, .int .i64 pb.val, .int .i64 pb.next, .slice PA pn pc]).row (by simp)) (bxs_one _ (fun p hp => by rw [List.mem_singleton.1 hp]; exact ⟨_, _, _, rfl⟩)) (by rw [HTL.out]; unfold maxLen; simp; omega) (by rw [HTL.out]; simp; omega) (by simp; omega) ?_
          intro v3 w3 hown3 hg3 hat3
          rw [HTS.out, List.length_take, HLN.out, Nat.min_eq_left (show k + 1 ≤ n by omega)] at hown3
          obtain ⟨B3, b3, rfl, _, _, _⟩ := own_form (V := []) hown3 (by simp)
          have HL3 := Lib.hid hown3
          have OX3 := Lib.hid ((OX.out.alloc (.cells #[.string pb.name, .int .i64 pb.val, .int .i64 pb.next, .slice PA pn pc] 43)).appd hg3 (fun bb hb => by have := HB4.out bb hb; omega))
          have OY3 := Lib.hid ((OY.out.alloc (.cells #[.string pb.name, .int .i64 pb.val, .int .i64 pb.next, .slice PA pn pc] 43)).appd hg3 (fun bb hb => by have := HB4.out bb hb; omega))
          have OR3 := Lib.hid ((OR.out.alloc (.cells #[.string pb.name, .int .i64 pb.val, .int .i64 pb.next, .slice PA pn pc] 43)).appd hg3 (fun bb hb => by have := HB4.out bb hb; omega))
          have K3 : Kept w w3 := (K.alloc (.cells #[.string pb.name, .int .i64 pb.val, .int .i64 pb.next, .slice PA pn pc] 43)).grown hg3 (fun bb hb => by have := HB4.out bb hb; omega)
          clear hown3 hg3 hat3))
        go_roundw
        case rel => exact ⟨k + 1, B3, b3, by omega, by go_num, rfl, OX3.out, OY3.out, OR3.out, HL3.out, K3⟩
        case measure => simp [intOf]; omega
      · obtain ⟨b2, o2, rfl, hb2, _, hcs⟩ := HROW.out (by rw [bxs_length, HN.out]; omega)
        have hk' : k < ps.length := by rw [HN.out]; exact hlt
        obtain ⟨g1, g2, g3, g4⟩ := bxs_at hk'
        replace g1 := (K.cell (p := ⟨b2, o2 + k * 4, none⟩) hb2).trans (hcs _ _ g1)
        replace g2 := (K.cell (p := ⟨b2, o2 + k * 4 + 1, none⟩) hb2).trans (hcs _ _ g2)
        replace g3 := (K.cell (p := ⟨b2, o2 + k * 4 + 2, none⟩) hb2).trans (hcs _ _ g3)
        replace g4 := (K.cell (p := ⟨b2, o2 + k * 4 + 3, none⟩) hb2).trans (hcs _ _ g4)
        obtain ⟨MA, mn, mc, hmv⟩ := HF.out _ (List.getElem_mem hk')
        rw [hmv] at g4
        have hat' : ¬ (k : Int) = (at_ : Int) := by omega
        have hatb : ((k : Int) == (at_ : Int)) = false := beq_f hat'
        have HEL : Hid (ls[k]'(by rw [HLN.out]; exact hlt) = ((⟨ps[k].1.name, ps[k].1.val, ps[k].1.next, ps[k].1.mails⟩ : Bx), Value.slice MA mn mc)) := by
          show _ = _
          simp only [HLS.out]
          rw [List.getElem_set_ne (Ne.symm hat), ← hmv]
        clear hcs hmv
        generalize ps[k].1.name = bn at *
        generalize ps[k].1.val = bl at *
        generalize ps[k].1.next = bt at *
        generalize ps[k].1.mails = bml at *
        have k1 : (k : Int) < (n : Int) := by omega
        have HTL : Hid ((ls.take k).length = k) := by show _ = _; rw [List.length_take, HLN.out]; omega
        have HTS : Hid (ls.take k ++ [((⟨bn, bl, bt, bml⟩ : Bx), Value.slice MA mn mc)] = ls.take (k + 1)) := by show _ = _; rw [← take_snoc ls k (by rw [HLN.out]; exact hlt), HEL.out]
        have HB4 := Lib.hid (fun bb (hb : (Value.slice B k b).ownBlock = some bb) => (ownBlock_of HL.out hb).1)
        go_wp2_with (at_builtin; go_must (
          refine Try.elRb.wpList_app rfl (.tmp 23) (.tmp 29) rfl (w.heap.size + 3) (.slice B k b) (ls.take k) rfl (by rw [HTL.out]; exact HL.out.alloc _) [] (some ⟨wr.heap.size, 0, none⟩) 1 [((⟨bn, bl, bt, bml⟩ : Bx), Value.slice MA mn mc)] rfl ((Own.new wr _ [.string bn, .int .i64 bl, .int .i64 bt, .slice MA mn mc]).row (by simp)) (bxs_one _ (fun p hp => by rw [List.mem_singleton.1 hp]; exact ⟨_, _, _, rfl⟩)) (by rw [HTL.out]; unfold maxLen; simp; omega) (by rw [HTL.out]; simp; omega) (by simp; omega) ?_
          intro v3 w3 hown3 hg3 hat3
          rw [HTS.out, List.length_take, HLN.out, Nat.min_eq_left (show k + 1 ≤ n by omega)] at hown3
          obtain ⟨B3, b3, rfl, _, _, _⟩ := own_form (V := []) hown3 (by simp)
          have HL3 := Lib.hid hown3
          have OX3 := Lib.hid ((OX.out.alloc (.cells #[.string bn, .int .i64 bl, .int .i64 bt, .slice MA mn mc] 43)).appd hg3 (fun bb hb => by have := HB4.out bb hb; omega))
          have OY3 := Lib.hid ((OY.out.alloc (.cells #[.string bn, .int .i64 bl, .int .i64 bt, .slice MA mn mc] 43)).appd hg3 (fun bb hb => by have := HB4.out bb hb; omega))
          have OR3 := Lib.hid ((OR.out.alloc (.cells #[.string bn, .int .i64 bl, .int .i64 bt, .slice MA mn mc] 43)).appd hg3 (fun bb hb => by have := HB4.out bb hb; omega))
          have K3 : Kept w w3 := (K.alloc (.cells #[.string bn, .int .i64 bl, .int .i64 bt, .slice MA mn mc] 43)).grown hg3 (fun bb hb => by have := HB4.out bb hb; omega)
          clear hown3 hg3 hat3))
        go_roundw
        case rel => exact ⟨k + 1, B3, b3, by omega, by go_num, rfl, OX3.out, OY3.out, OR3.out, HL3.out, K3⟩
        case measure => simp [intOf]; omega
    · obtain rfl : k = n := by omega
      have HLT : Hid (ls.take k = ls) := List.take_of_length_le (by rw [HLN.out]; exact Nat.le_refl _)
      rw [HLT.out] at HL
      obtain ⟨B', b', e, hb1, hb2, hb3⟩ := own_form (V := []) HL.out (by simp)
      cases e
      unfold maxLen at hb2
      go_wp2_with fail
      have HSO := sorted_any (w.heap.size :: (w.heap.size + 2) :: V) ls B b wr (Old.cons zX (Old.cons zR (HOV.out.go K))) (by rw [HLN.out]; exact hb1) (by unfold maxLen; exact hb2) (by rw [HLN.out]; omega) hb3 HFL.out
      rw [HLN.out] at HSO
      have HSO := Lib.hid HSO
      clear hb3
      refine (HSO.out).mono ?_
      rintro e wz1 ⟨A4, c4, rfl, h41, h42, h43, hk⟩
      clear cX0 cX1 cX2 fX0 fX1 fX2 cY0 cY1 cY2 cY3 fY0 fY1 fY2 fY3 cR0 cR1 cR2 fR0 fR1 fR2
      replace OX := Lib.hid (OX.out.kept hk)
      replace OY := Lib.hid (OY.out.kept hk)
      replace OR := Lib.hid (OR.out.kept hk)
      replace HL := Lib.hid (ownsRow_kept HL.out hk)
      replace K := K.trans hk
      have HR4 := Lib.hid h43
      rw [HLN.out] at h41 ⊢
      clear h43 HSO
      clear hk
      clear HL
      unfold maxLen at h42
      obtain ⟨cX0, cX1, cX2, fX0, fX1, fX2⟩ := OX.out.three
      have cY0 := OY.out.cell? 0
      have fY0 := OY.out.frozen 0
      have cY1 := OY.out.cell? 1
      have fY1 := OY.out.frozen 1
      have cY2 := OY.out.cell? 2
      have fY2 := OY.out.frozen 2
      have cY3 := OY.out.cell? 3
      have fY3 := OY.out.frozen 3
      simp only [List.getElem?_cons_zero, List.getElem?_cons_succ] at cY0 cY1 cY2 cY3
      obtain ⟨cR0, cR1, cR2, fR0, fR1, fR2⟩ := OR.out.three
      go_wp2
      clear cX0 cX1 cX2 fX0 fX1 fX2 cY0 cY1 cY2 cY3 fY0 fY1 fY2 fY3 cR0 cR1 cR2 fR0 fR1 fR2
      replace OX : Hid (Own (wz1.setCell ⟨w.heap.size, 0, none⟩ (.slice A4 k c4)) w.heap.size 29 [.slice A4 k c4, .slice SA sn sc, .int .i64 gv]) := Lib.hid (OX.out.set_ 0 (.slice A4 k c4))
      replace OY : Hid (Own (wz1.setCell ⟨w.heap.size, 0, none⟩ (.slice A4 k c4)) (w.heap.size + 1) 43 [.string pb.name, .int .i64 pb.val, .int .i64 pb.next, .slice PA pn pc]) := Lib.hid (OY.out.far (p := ⟨w.heap.size, 0, none⟩) (by first | omega | (simp; omega) | simp) (.slice A4 k c4))
      replace OR : Hid (Own (wz1.setCell ⟨w.heap.size, 0, none⟩ (.slice A4 k c4)) (w.heap.size + 2) 29 [.slice none 0 0, .slice none 0 0, .int .i64 0]) := Lib.hid (OR.out.far (p := ⟨w.heap.size, 0, none⟩) (by first | omega | (simp; omega) | simp) (.slice A4 k c4))
      replace HR4 := Lib.hid (HR4.out.put (p := ⟨w.heap.size, 0, none⟩) (by simp) (.slice A4 k c4))
      replace K := (K.setCell (p := ⟨w.heap.size, 0, none⟩) (by first | exact Nat.le_refl _ | (simp only []; omega) | simp) (.slice A4 k c4))
      generalize (wz1.setCell ⟨w.heap.size, 0, none⟩ (.slice A4 k c4)) = wz2 at *
      replace OX : Hid (Own (((wz2.setCell ⟨(w.heap.size + 2), 0, none⟩ (.slice A4 k c4)).setCell ⟨(w.heap.size + 2), 1, none⟩ (.slice SA sn sc)).setCell ⟨(w.heap.size + 2), 2, none⟩ (.int .i64 gv)) w.heap.size 29 [.slice A4 k c4, .slice SA sn sc, .int .i64 gv]) := Lib.hid (((OX.out.far (p := ⟨(w.heap.size + 2), 0, none⟩) (by first | omega | (simp; omega) | simp) (.slice A4 k c4)).far (p := ⟨(w.heap.size + 2), 1, none⟩) (by first | omega | (simp; omega) | simp) (.slice SA sn sc)).far (p := ⟨(w.heap.size + 2), 2, none⟩) (by first | omega | (simp; omega) | simp) (.int .i64 gv))
      replace OY : Hid (Own (((wz2.setCell ⟨(w.heap.size + 2), 0, none⟩ (.slice A4 k c4)).setCell ⟨(w.heap.size + 2), 1, none⟩ (.slice SA sn sc)).setCell ⟨(w.heap.size + 2), 2, none⟩ (.int .i64 gv)) (w.heap.size + 1) 43 [.string pb.name, .int .i64 pb.val, .int .i64 pb.next, .slice PA pn pc]) := Lib.hid (((OY.out.far (p := ⟨(w.heap.size + 2), 0, none⟩) (by first | omega | (simp; omega) | simp) (.slice A4 k c4)).far (p := ⟨(w.heap.size + 2), 1, none⟩) (by first | omega | (simp; omega) | simp) (.slice SA sn sc)).far (p := ⟨(w.heap.size + 2), 2, none⟩) (by first | omega | (simp; omega) | simp) (.int .i64 gv))
      replace OR : Hid (Own (((wz2.setCell ⟨(w.heap.size + 2), 0, none⟩ (.slice A4 k c4)).setCell ⟨(w.heap.size + 2), 1, none⟩ (.slice SA sn sc)).setCell ⟨(w.heap.size + 2), 2, none⟩ (.int .i64 gv)) (w.heap.size + 2) 29 [.slice A4 k c4, .slice SA sn sc, .int .i64 gv]) := Lib.hid (((OR.out.set_ 0 (.slice A4 k c4)).set_ 1 (.slice SA sn sc)).set_ 2 (.int .i64 gv))
      replace HR4 := Lib.hid (((HR4.out.put (p := ⟨(w.heap.size + 2), 0, none⟩) (by simp) (.slice A4 k c4)).put (p := ⟨(w.heap.size + 2), 1, none⟩) (by simp) (.slice SA sn sc)).put (p := ⟨(w.heap.size + 2), 2, none⟩) (by simp) (.int .i64 gv))
      replace K := (((K.setCell (p := ⟨(w.heap.size + 2), 0, none⟩) (by first | exact Nat.le_refl _ | (simp only []; omega) | simp) (.slice A4 k c4)).setCell (p := ⟨(w.heap.size + 2), 1, none⟩) (by first | exact Nat.le_refl _ | (simp only []; omega) | simp) (.slice SA sn sc)).setCell (p := ⟨(w.heap.size + 2), 2, none⟩) (by first | exact Nat.le_refl _ | (simp only []; omega) | simp) (.int .i64 gv))
      generalize (((wz2.setCell ⟨(w.heap.size + 2), 0, none⟩ (.slice A4 k c4)).setCell ⟨(w.heap.size + 2), 1, none⟩ (.slice SA sn sc)).setCell ⟨(w.heap.size + 2), 2, none⟩ (.int .i64 gv)) = wz3 at *
      obtain ⟨cX0, cX1, cX2, fX0, fX1, fX2⟩ := OX.out.three
      have cY0 := OY.out.cell? 0
      have fY0 := OY.out.frozen 0
      have cY1 := OY.out.cell? 1
      have fY1 := OY.out.frozen 1
      have cY2 := OY.out.cell? 2
      have fY2 := OY.out.frozen 2
      have cY3 := OY.out.cell? 3
      have fY3 := OY.out.frozen 3
      simp only [List.getElem?_cons_zero, List.getElem?_cons_succ] at cY0 cY1 cY2 cY3
      obtain ⟨cR0, cR1, cR2, fR0, fR1, fR2⟩ := OR.out.three
      refine bodyPost_ret (v := .agg #[.slice A4 k c4, .slice SA sn sc, .int .i64 gv]) (by simp [results, Try.results44, go_sem, cR0, cR1, cR2]) rfl ?_
      exact ⟨A4, c4, by rw [HLN.out], by rw [HLN.out]; exact h41, h42, (by rw [HLN.out]; rw [HLN.out] at HR4; exact HR4.out.go (Kept.refl _) (fun j hj => .inl (List.mem_cons_of_mem _ (List.mem_cons_of_mem _ hj)))), K⟩
end Go.Proofs.Ytjinnkbnllnllaa
