/- Walk: mailsackref15.Right. -/
import Derived.Test.YtjinnkbnllnllaaRxName
import Derived.Test.YtjinnkbnllnllaaIxRightW
import Derived.Test.YtjinnkbnllnllaaIxBin
import Derived.Test.YtjinnkbnllnllaaL15Plain
import Derived.Test.YtjinnkbnllnllaaIxFlag
import Derived.Test.YtjinnkbnllnllaaIxCopy
import Derived.Test.YtjinnkbnllnllaaLast
import Derived.Deep.CutRange
namespace Go.Proofs.Ytjinnkbnllnllaa
open Go.RowKit

theorem quietL {P : Program} {f : FuncId} {args : Array Value} {w : World} {n : Nat} {v : Value}
    (h : Calls P f args (w.drewN n) fun e w' => e = .returned v ∧ w.drewN n = w') : Calls P f args (w.drewN n) fun e w'' => e = .returned v ∧ ∃ m, w'' = w.drewN m :=
  h.mono fun _ _ ⟨he, hm⟩ => ⟨he, n, hm.symm⟩
def geB (a b : ByteArray) : Bool := !(Op.bytesLess a.toList b.toList)
theorem nmLe_ge (s p : ByteArray) : nmLe s p = geB p s := by
  unfold nmLe geB
  rcases Bool.eq_false_or_eq_true (Op.bytesLess p.toList s.toList) with h | h
  · rw [h]
    have h1 : Op.bytesLess s.toList p.toList = false := by
      rcases Bool.eq_false_or_eq_true (Op.bytesLess s.toList p.toList) with e | e
      · have := bl_trans _ _ _ h e
        rw [bl_irrefl] at this; cases this
      · exact e
    have h2 : (s.toList == p.toList) = false := by
      rw [beq_eq_false_iff_ne]
      intro e
      rw [e, bl_irrefl] at h; cases h
    rw [h1, h2]; rfl
  · rw [h]
    by_cases e : p.toList = s.toList
    · rw [e]; simp
    · rw [bl_tri _ _ h e]; rfl
/-- A mailbox by itself, but for its messages. -/
def headB (x : Ix) (i : Nat) : Bool :=
  nameB (bxAt x i).name && inB (bxAt x i).val 1 (x.given - 1) && inB (bxAt x i).next 1 4294967295 && !(decide (0 < i) && nmEq (bxAt x i).name inbox) && !(decide (1 < i) && geB (bxAt x (i - 1)).name (bxAt x i).name)
def mailC (l : List Ml) (next : Int) (k : Nat) : Bool :=
  rmB (mlAt l k) && decide ((mlAt l k).uid < next) && !(decide (0 < k) && decide ((mlAt l k).uid ≤ (mlAt l (k - 1)).uid))
def stepC (x : Ix) (i : Nat) : Bool := headB x i && allTo (mailC (bxAt x i).mails (bxAt x i).next) (bxAt x i).mails.length
theorem mailsB_iff {next : Int} : ∀ (l : List Ml) (last : Int), mailsB next last l = true ↔ ∀ k, k < l.length → (mailB (mlAt l k).obj (mlAt l k).size (mlAt l k).flags = true ∧ (mlAt l k).uid < next ∧ (k = 0 → last < (mlAt l k).uid) ∧ (0 < k → (mlAt l (k - 1)).uid < (mlAt l k).uid))
  | [], last => by simp [mailsB]
  | m :: l, last => by
    simp only [mailsB, Bool.and_eq_true, decide_eq_true_eq, mailsB_iff l m.uid]
    constructor
    · rintro ⟨⟨⟨h1, h2⟩, h3⟩, h4⟩ k hk
      cases k with
      | zero => exact ⟨h3, h2, fun _ => h1, fun h => absurd h (by omega)⟩
      | succ k =>
        obtain ⟨a, b, c, d⟩ := h4 k (by simpa using hk)
        refine ⟨a, b, fun h => absurd h (by omega), fun _ => ?_⟩
        cases k with
        | zero => exact c rfl
        | succ k => exact d (by omega)
    · intro h
      obtain ⟨a, b, c, _⟩ := h 0 (by simp)
      refine ⟨⟨⟨c rfl, b⟩, a⟩, fun k hk => ?_⟩
      obtain ⟨a', b', c', d'⟩ := h (k + 1) (by simpa using hk)
      refine ⟨a', b', fun e => ?_, fun e => ?_⟩
      · subst e; exact d' (by omega)
      · have := d' (by omega)
        simp only [Nat.add_sub_cancel] at this
        obtain ⟨j, rfl⟩ : ∃ j, k = j + 1 := ⟨k - 1, by omega⟩
        exact this
theorem mailC_all {l : List Ml} {next : Int} (hn : next ≤ 4294967295) : allTo (mailC l next) l.length = mailsB next 0 l := by
  rw [Bool.eq_iff_iff, mailsB_iff, allTo_iff]
  constructor
  · intro h k hk
    have := h k hk
    simp only [mailC, rmB_eq, Bool.and_eq_true, Bool.not_eq_true', Bool.and_eq_false_iff, decide_eq_true_eq, decide_eq_false_iff_not, posB] at this
    obtain ⟨⟨⟨⟨h1, _⟩, h2⟩, h3⟩, h4⟩ := this
    refine ⟨h2, h3, fun _ => by omega, fun h0 => ?_⟩
    rcases h4 with h4 | h4
    · exact absurd h0 h4
    · omega
  · intro h k hk
    obtain ⟨a, b, c, d⟩ := h k hk
    simp only [mailC, rmB_eq, Bool.and_eq_true, Bool.not_eq_true', Bool.and_eq_false_iff, decide_eq_true_eq, decide_eq_false_iff_not, posB]
    have hp : 0 < (mlAt l k).uid := by
      have : ∀ j, j ≤ k → 0 < (mlAt l j).uid := by
        intro j
        induction j with
        | zero => intro _; exact (h 0 (by omega)).2.2.1 rfl
        | succ j ih =>
          intro hj
          have h1 := ih (by omega)
          have h2 := (h (j + 1) (by omega)).2.2.2 (by omega)
          simp only [Nat.add_sub_cancel] at h2
          omega
      exact this k (Nat.le_refl _)
    refine ⟨⟨⟨⟨by omega, by omega⟩, a⟩, b⟩, ?_⟩
    by_cases h0 : 0 < k
    · exact .inr (by have := d h0; omega)
    · exact .inl h0
theorem stepC_eq {x : Ix} {i : Nat} (hg : posB x.given = true) (hm : (bxAt x i).mails.length ≤ 30) : stepC x i = stepB x i := by
  simp only [posB, Bool.and_eq_true, decide_eq_true_eq] at hg
  have hv : inB (bxAt x i).val 1 (x.given - 1) = (posB (bxAt x i).val && decide ((bxAt x i).val < x.given)) := by
    simp only [inB, posB]
    rw [Bool.eq_iff_iff]
    simp only [Bool.and_eq_true, decide_eq_true_eq]
    omega
  have hx : inB (bxAt x i).next 1 4294967295 = posB (bxAt x i).next := rfl
  unfold stepC headB stepB boxB
  rw [hv, hx, nmLe_ge]
  by_cases hn : posB (bxAt x i).next = true
  · have : (bxAt x i).next ≤ 4294967295 := by simp only [posB, Bool.and_eq_true, decide_eq_true_eq] at hn; exact hn.2
    rw [mailC_all this, hn]
    simp only [hm, decide_true, Bool.and_true]
    cases nameB (bxAt x i).name <;> cases posB (bxAt x i).val <;> cases mailsB (bxAt x i).next 0 (bxAt x i).mails <;> cases decide ((bxAt x i).val < x.given) <;> simp
  · rw [Bool.not_eq_true] at hn
    rw [hn]
    simp
theorem right_ref {x : Ix} (h1 : 1 ≤ x.boxes.length) (h2 : x.boxes.length ≤ 6) (h3 : nmEq (bxAt x 0).name inbox = true) (h4 : x.subs.length ≤ 6) (h5 : posB x.given = true) :
    rightB x = (allTo (subB x) x.subs.length && (allTo (stepC x) x.boxes.length && decide (totTo x x.boxes.length ≤ 30))) := by
  rw [rightB_split h1 h2, h3, h5, decide_eq_true h4]
  by_cases ht : totTo x x.boxes.length ≤ 30
  · have : allTo (stepC x) x.boxes.length = allTo (stepB x) x.boxes.length := by
      rw [Bool.eq_iff_iff, allTo_iff, allTo_iff]
      have hk : ∀ k, k < x.boxes.length → stepC x k = stepB x k := fun k hk => stepC_eq h5 (Nat.le_trans (tot_ge _ hk) ht)
      exact ⟨fun h k hkk => by rw [← hk k hkk]; exact h k hkk, fun h k hkk => by rw [hk k hkk]; exact h k hkk⟩
    rw [this]
    cases allTo (stepB x) x.boxes.length <;> cases allTo (subB x) x.subs.length <;> simp
  · simp [ht]
theorem subC_eq (x : Ix) (i : Nat) : subB x i = (nameB (subAt x i) && !(decide (0 < i) && geB (subAt x (i - 1)) (subAt x i))) := by
  unfold subB; rw [nmLe_ge]

set_option maxRecDepth 100000 in
set_option maxHeartbeats 4000000 in
theorem rright_main (x : Ix) (A' : Option Addr) (b o c c' : Nat) (mv : Nat → Value) (w : World) (hok : IxOk x) (hc1 : x.boxes.length ≤ c) (hc2 : c ≤ maxLen) (hc3 : x.subs.length ≤ c') (hc4 : c' ≤ maxLen) (hb : b < w.heap.size) (hbc : Bc [] w b o x.boxes mv) (hrow : Row [] w A' (strs x.subs))
    (hsm : ∀ k, k < x.boxes.length → (bxAt x k).mails.length ≤ 50)
    (h1 : 1 ≤ x.boxes.length) (h2 : x.boxes.length ≤ 6) (h3 : nmEq (bxAt x 0).name inbox = true) (h4 : x.subs.length ≤ 6) (h5 : posB x.given = true) :
    Calls Try.prog 41 #[.agg #[.slice (some ⟨b, o, none⟩) x.boxes.length c, .slice A' x.subs.length c', .int .i64 x.given]] w (RightPost x w) := by
  have HE := Lib.hid (right_ref h1 h2 h3 h4 h5)
  have HBC := Lib.hid hbc
  have HROW := Lib.hid hrow
  have HSM := Lib.hid hsm
  obtain ⟨⟨hg1, hg2⟩, hob, hos⟩ := hok
  have HOB := Lib.hid hob
  have HOS := Lib.hid hos
  have g0 := (hbc 0 h1).1
  simp only [Nat.zero_mul, Nat.add_zero] at g0
  have h3' : (x.boxes[0].name.toList == inbox.toList) = true := by rw [bxAt_lt h1] at h3; exact h3
  have H5 : Hid (inB x.given 1 4294967295 = true) := h5
  have hgp : 1 ≤ x.given := by simp only [posB, Bool.and_eq_true, decide_eq_true_eq] at h5; exact h5.1
  have H1 : Hid (inB (x.boxes.length : Int) 1 6 = true) := by show _ = _; unfold inB; rw [decide_eq_true (by omega), decide_eq_true (by omega)]; rfl
  have hlit := inbox_lit
  unfold maxLen at hc2 hc4
  clear hbc hrow h3 h5 hob hos hsm
  generalize x.boxes[0].name = nm0 at *
  generalize hn : x.boxes.length = n at *
  generalize hm : x.subs.length = m at *
  generalize hg : x.given = gv at *
  have HN := Lib.hid hn
  have HM := Lib.hid hm
  have HG := Lib.hid hg
  clear hn hm hg
  go_enter Try.func41, Try.ntmps41
  go_wp2_with fail
  refine (in_any _ _ _ _).mono ?_
  rw [H1.out]
  rintro e w1 ⟨rfl, rfl⟩
  go_wp2_with fail
  refine (in_any _ _ _ _).mono ?_
  rw [H5.out]
  rintro e w1 ⟨rfl, rfl⟩
  clear g0 h3'
  go_wp2_with fail
  go_loopw [3] (fun iv wr => ∃ j : Nat, j ≤ m ∧ iv = .int .i64 j ∧ Hid (∀ i, i < j → subB x i = true) ∧ Own wr w.heap.size 29 [.slice (some ⟨b, o, none⟩) n c, .slice A' m c', .int .i64 gv] ∧ Kept w wr) (fun iv _ => m - (intOf iv).toNat)
  case atStart => exact ⟨0, Nat.zero_le _, rfl, fun j hj => by omega, Own.new w _ [_, _, _], (Kept.refl w).alloc _⟩
  case round =>
    obtain ⟨j, hj, rfl, HJ, ho, hkx⟩ := hrel
    have HO2 := Lib.hid ho
    obtain ⟨r1, r2, r3, _, _, _⟩ := ho.three
    clear ho
    by_cases hlt2 : j < m
    · have hj' : j < x.subs.length := by rw [HM.out]; exact hlt2
      obtain ⟨b', o', rfl, hb', _, hc'⟩ := HROW.out.kept hkx (by rw [strs_length]; omega)
      have s1 : wr.cell? ⟨b', o' + j, none⟩ = some (.string x.subs[j]) := hc' _ _ (strs_at hj')
      have HPREV : Hid (1 ≤ j → wr.cell? ⟨b', o' + (j - 1), none⟩ = some (.string (subAt x (j - 1)))) := fun h1 => by
        have hi : j - 1 < x.subs.length := by omega
        rw [subAt_lt hi]
        exact hc' _ _ (strs_at hi)
      have HST : Hid (subB x j = (nameB x.subs[j] && !(decide (0 < j) && geB (subAt x (j - 1)) x.subs[j]))) := by show _ = _; rw [subC_eq, subAt_lt hj']
      have HNO : Hid (subB x j = false → false = rightB x) := fun h => by rw [HE.out, allTo_no hlt2 h]; rfl
      have hsz := HOS.out x.subs[j] (List.getElem_mem hj')
      clear hc'
      generalize x.subs[j] = s at *
      obtain ⟨pn, hpn⟩ : ∃ p, nameB s = p := ⟨_, rfl⟩
      rw [hpn] at HST
      have HNM : Hid (∀ W, Calls Try.prog 55 #[.string s] W fun e w' => e = .returned (.bool pn) ∧ W = w') := fun W => by rw [← hpn]; exact rname_any s W hsz
      clear hpn hsz
      cases pn with
      | false =>
        go_wp2_with fail
        go_quiet ((go_at_call 55; exact quietL (HNM.out _)))
        go_wp2
        go_ret
        exact ⟨ret_bool (HNO.out (by rw [HST.out]; rfl)), hkx.drewN _⟩
      | true =>
        rcases Nat.eq_zero_or_pos j with hj0 | hj0
        · subst hj0
          simp only [Nat.add_zero] at s1
          go_wp2_with fail
          go_quiet ((go_at_call 55; exact quietL (HNM.out _)))
          go_wp2
          go_roundw
          case rel =>
            refine ⟨1, by omega, by first | rfl | go_num, fun i hi => ?_, HO2.out.drewN _, hkx.drewN _⟩
            obtain rfl : i = 0 := by omega
            rw [HST.out]; rfl
          case measure => simp [intOf]; omega
        · have j0 : (0 : Int) < (j : Int) := by omega
          have gp := HPREV.out hj0
          have i0 : (0 : Int) ≤ (j : Int) - 1 := by omega
          have i1 : (j : Int) - 1 < (m : Int) := by omega
          have i2 : ((j : Int) - 1).toNat = j - 1 := by omega
          have i3 : IntKind.i64.wrap ((j : Int) - 1) = (j : Int) - 1 := IntWalk.i64_in _ (by omega)
          obtain ⟨l1, hl1⟩ : ∃ p, Op.bytesLess (subAt x (j - 1)).toList s.toList = p := ⟨_, rfl⟩
          have HLE : Hid (geB (subAt x (j - 1)) s = !l1) := by show _ = _; unfold geB; rw [hl1]
          generalize subAt x (j - 1) = pv at *
          cases l1 with
          | false =>
            go_wp2_with fail
            go_quiet ((go_at_call 55; exact quietL (HNM.out _)))
            go_wp2
            go_ret
            exact ⟨ret_bool (HNO.out (by rw [HST.out, HLE.out]; simp; omega)), hkx.drewN _⟩
          | true =>
            go_wp2_with fail
            go_quiet ((go_at_call 55; exact quietL (HNM.out _)))
            go_wp2
            go_roundw
            case rel =>
              refine ⟨j + 1, by omega, by go_num, fun i hi => ?_, HO2.out.drewN _, hkx.drewN _⟩
              by_cases e : i = j
              · subst e; rw [HST.out, HLE.out]; simp
              · exact HJ.out i (by omega)
            case measure => simp [intOf]; omega
    · obtain rfl : j = m := by omega
      have HALL : Hid (rightB x = (allTo (stepC x) n && decide (totTo x n ≤ 30))) := by show _ = _; rw [HE.out, allTo_iff.2 HJ.out, Bool.true_and]
      clear HJ HE HROW
      go_wp2_with fail
      go_loopw [4, 5] (fun av iv wq => ∃ k t : Nat, k ≤ n ∧ iv = .int .i64 k ∧ av = .int .i64 t ∧ Hid (t = totTo x k) ∧ t ≤ k * 50 ∧ Hid (∀ i, i < k → stepC x i = true) ∧ Own wq w.heap.size 29 [.slice (some ⟨b, o, none⟩) n c, .slice A' j c', .int .i64 gv] ∧ Kept w wq) (fun _ iv _ => n - (intOf iv).toNat)
      case atStart => exact ⟨0, 0, Nat.zero_le _, rfl, rfl, rfl, by omega, fun i hi => by omega, HO2.out, hkx⟩
      case round =>
        clear r1 r2 r3 HO2 hkx
        obtain ⟨k, t, hk, rfl, rfl, HT, ht, HS, ho, K⟩ := hrel
        have OX := Lib.hid ho
        clear ho
        obtain ⟨q1, q2, q3, _, _, _⟩ := OX.out.three
        have zX := OX.out.lt
        have zK := K.size
        have zb : b < wr.heap.size := Nat.lt_of_lt_of_le hb zK
        by_cases hlt : k < n
        · have hk' : k < x.boxes.length := by rw [HN.out]; exact hlt
          obtain ⟨g1, g2, g3, g4, gm⟩ := HBC.out.go hb K (Ext.refl _ _) k hk'
          have HOKB := Lib.hid (HOB.out x.boxes[k] (List.getElem_mem hk'))
          have HAT := Lib.hid (bxAt_lt hk')
          obtain ⟨MA, mc, hmv⟩ := gm.form
          have HNO : Hid (stepC x k = false → false = rightB x) := fun h => by rw [HALL.out, allTo_no hlt h]; rfl
          have HPREV : Hid (1 ≤ k → wr.cell? ⟨b, o + (k - 1) * 4, none⟩ = some (.string (bxAt x (k - 1)).name)) := fun h1 => by
            have hj : k - 1 < x.boxes.length := by omega
            rw [bxAt_lt hj]
            exact (HBC.out.go hb K (Ext.refl _ _) (k - 1) hj).1
          have hm50 := HSM.out k hlt
          rw [HAT.out] at hm50
          have HSC : Hid (stepC x k = (headB x k && allTo (mailC x.boxes[k].mails x.boxes[k].next) x.boxes[k].mails.length)) := by show _ = _; unfold stepC; rw [HAT.out]
          have HTT : Hid (totTo x (k + 1) = totTo x k + x.boxes[k].mails.length) := by show _ = _; rw [totTo, HAT.out]
          have HHD : Hid (headB x k = (nameB x.boxes[k].name && inB x.boxes[k].val 1 (gv - 1) && inB x.boxes[k].next 1 4294967295 && !(decide (0 < k) && nmEq x.boxes[k].name inbox) && !(decide (1 < k) && geB (bxAt x (k - 1)).name x.boxes[k].name))) := by show _ = _; unfold headB; rw [HAT.out, HG.out]
          have gm0 := (HBC.out k hk').2.2.2.2
          rw [hmv] at g4 gm0
          have HGM := Lib.hid gm0
          clear gm gm0 hmv HAT
          generalize x.boxes[k] = B at *
          have hml : B.mails.length ≤ mc ∧ mc ≤ maxLen := by
            obtain ⟨_, _, e, e1, e2, _⟩ := HGM.out
            cases e; exact ⟨e1, e2⟩
          obtain ⟨hml1, hml2⟩ := hml
          unfold maxLen at hml2
          have hgw : IntKind.i64.wrap (gv - 1) = gv - 1 := IntWalk.i64_in _ (by omega)
          obtain ⟨pn, hpn⟩ : ∃ p, nameB B.name = p := ⟨_, rfl⟩
          have HNM : Hid (∀ W, Calls Try.prog 55 #[.string B.name] W fun e w' => e = .returned (.bool pn) ∧ W = w') := fun W => by rw [← hpn]; exact rname_any B.name W HOKB.out.1
          rw [hpn] at HHD
          clear hpn
          obtain ⟨pv, ppv⟩ : ∃ p, inB B.val 1 (gv - 1) = p := ⟨_, rfl⟩
          obtain ⟨px, ppx⟩ : ∃ p, inB B.next 1 4294967295 = p := ⟨_, rfl⟩
          obtain ⟨pe, ppe⟩ : ∃ p, (B.name.toList == inbox.toList) = p := ⟨_, rfl⟩
          obtain ⟨pl, ppl⟩ : ∃ p, Op.bytesLess (bxAt x (k - 1)).name.toList B.name.toList = p := ⟨_, rfl⟩
          have HHE : Hid (headB x k = (pn && pv && px && !(decide (0 < k) && pe) && !(decide (1 < k) && !pl))) := by show _ = _; rw [HHD.out, ppv, ppx, show nmEq B.name inbox = pe from ppe, show geB (bxAt x (k - 1)).name B.name = !pl by unfold geB; rw [ppl]]
          clear HHD
          generalize (bxAt x (k - 1)).name = pv' at *
          go_upto_region 13 with fail
          go_cut [121] from 66 to 161 (fun v wx => v = .bool (!(headB x k)) ∧ Own wx wr.heap.size 43 [.string B.name, .int .i64 B.val, .int .i64 B.next, .slice MA B.mails.length mc] ∧ Own wx w.heap.size 29 [.slice (some ⟨b, o, none⟩) n c, .slice A' j c', .int .i64 gv] ∧ Kept w wx)
          case first =>
            have OB := Lib.hid (Own.new wr 43 [.string B.name, .int .i64 B.val, .int .i64 B.next, .slice MA B.mails.length mc])
            have OX2 := Lib.hid (OX.out.alloc (.cells #[.string B.name, .int .i64 B.val, .int .i64 B.next, .slice MA B.mails.length mc] 43))
            have K2 := K.alloc (.cells #[.string B.name, .int .i64 B.val, .int .i64 B.next, .slice MA B.mails.length mc] 43)
            cases pn with
            | false =>
              go_quiet ((first | (go_at_call 55; exact quietL (HNM.out _)) | (go_at_call 45; exact quietL (in_any _ _ _ _))))
              go_wp2_with fail
              go_meet
              exact ⟨by rw [HHE.out]; rfl, OB.out.drewN _, OX2.out.drewN _, K2.drewN _⟩
            | true =>
              cases pv with
              | false =>
                go_quiet ((first | (go_at_call 55; exact quietL (HNM.out _)) | (go_at_call 45; exact quietL (in_any _ _ _ _))))
                go_wp2_with fail
                go_meet
                exact ⟨by rw [HHE.out]; rfl, OB.out.drewN _, OX2.out.drewN _, K2.drewN _⟩
              | true =>
                cases px with
                | false =>
                  go_quiet ((first | (go_at_call 55; exact quietL (HNM.out _)) | (go_at_call 45; exact quietL (in_any _ _ _ _))))
                  go_wp2_with fail
                  go_meet
                  exact ⟨by rw [HHE.out]; rfl, OB.out.drewN _, OX2.out.drewN _, K2.drewN _⟩
                | true =>
                  rcases Nat.eq_zero_or_pos k with hk0 | hk0
                  · subst hk0
                    go_quiet ((first | (go_at_call 55; exact quietL (HNM.out _)) | (go_at_call 45; exact quietL (in_any _ _ _ _))))
                    go_wp2_with fail
                    go_meet
                    exact ⟨by rw [HHE.out]; simp, OB.out.drewN _, OX2.out.drewN _, K2.drewN _⟩
                  · have k0 : (0 : Int) < (k : Int) := by omega
                    cases pe with
                    | true =>
                      go_quiet ((first | (go_at_call 55; exact quietL (HNM.out _)) | (go_at_call 45; exact quietL (in_any _ _ _ _))))
                      go_wp2_with fail
                      go_meet
                      exact ⟨by rw [HHE.out]; simp; omega, OB.out.drewN _, OX2.out.drewN _, K2.drewN _⟩
                    | false =>
                      by_cases hk1 : k = 1
                      · subst hk1
                        go_quiet ((first | (go_at_call 55; exact quietL (HNM.out _)) | (go_at_call 45; exact quietL (in_any _ _ _ _))))
                        go_wp2_with fail
                        go_meet
                        exact ⟨by rw [HHE.out]; simp, OB.out.drewN _, OX2.out.drewN _, K2.drewN _⟩
                      · have k1 : (1 : Int) < (k : Int) := by omega
                        have gp := HPREV.out hk0
                        have i0 : (0 : Int) ≤ (k : Int) - 1 := by omega
                        have i1 : (k : Int) - 1 < (n : Int) := by omega
                        have i2 : ((k : Int) - 1).toNat = k - 1 := by omega
                        have i3 : IntKind.i64.wrap ((k : Int) - 1) = (k : Int) - 1 := IntWalk.i64_in _ (by omega)
                        cases pl with
                        | false =>
                          go_quiet ((first | (go_at_call 55; exact quietL (HNM.out _)) | (go_at_call 45; exact quietL (in_any _ _ _ _))))
                          go_wp2_with fail
                          go_meet
                          exact ⟨by rw [HHE.out]; simp; omega, OB.out.drewN _, OX2.out.drewN _, K2.drewN _⟩
                        | true =>
                          go_quiet ((first | (go_at_call 55; exact quietL (HNM.out _)) | (go_at_call 45; exact quietL (in_any _ _ _ _))))
                          go_wp2_with fail
                          go_meet
                          exact ⟨by rw [HHE.out]; simp, OB.out.drewN _, OX2.out.drewN _, K2.drewN _⟩
          case rest =>
            obtain ⟨rfl, ob, ox, K⟩ := hcut
            generalize wr.heap.size = gB at *
            clear HHE HNM ppv ppx ppe ppl g1 g2 g3 g4 q1 q2 q3 HPREV hgw
            replace OX := Lib.hid ox
            have OB := Lib.hid ob
            have zB := ob.lt
            clear ox ob
            obtain ⟨cX0, cX1, cX2, fX0, fX1, fX2⟩ := OX.out.three
            obtain ⟨cB0, cB1, cB2, cB3⟩ := OB.out.four
            rcases Bool.eq_false_or_eq_true (headB x k) with hh | hh
            · have HH := Lib.hid hh
              rw [hh]
              clear hh
              go_wp2_with fail
              go_loopw [4, 7] (fun av iv wq => ∃ i : Nat, i ≤ B.mails.length ∧ iv = .int .i64 i ∧ av = .int .i64 ((t + i : Nat) : Int) ∧ Hid (∀ l, l < i → mailC B.mails B.next l = true) ∧ Own wq gB 43 [.string B.name, .int .i64 B.val, .int .i64 B.next, .slice MA B.mails.length mc] ∧ Own wq w.heap.size 29 [.slice (some ⟨b, o, none⟩) n c, .slice A' j c', .int .i64 gv] ∧ Kept w wq) (fun _ iv _ => B.mails.length - (intOf iv).toNat)
              case atStart => exact ⟨0, Nat.zero_le _, rfl, by simp, fun i hi => by omega, OB.out, OX.out, K⟩
              case round =>
                clear cX0 cX1 cX2 fX0 fX1 fX2 cB0 cB1 cB2 cB3 OB OX K
                obtain ⟨i, hi, rfl, rfl, HI, ob, ox, K⟩ := hrel
                have OB := Lib.hid ob
                have OX := Lib.hid ox
                clear ob ox
                obtain ⟨cX0, cX1, cX2, fX0, fX1, fX2⟩ := OX.out.three
                obtain ⟨cB0, cB1, cB2, cB3⟩ := OB.out.four
                have zX2 := OX.out.lt
                have zB2 := OB.out.lt
                by_cases hlt3 : i < B.mails.length
                · obtain ⟨mb, mo, rfl, hmb, _, g5, g6, g7, g8⟩ := (HGM.out.go K (Ext.refl _ _)).cells hlt3
                  have HMC : Hid (mailC B.mails B.next i = (rmB (mlAt B.mails i) && decide ((mlAt B.mails i).uid < B.next) && !(decide (0 < i) && decide ((mlAt B.mails i).uid ≤ (mlAt B.mails (i - 1)).uid)))) := rfl
                  have HNO2 : Hid (mailC B.mails B.next i = false → false = rightB x) := fun h => HNO.out (by rw [HSC.out, allTo_no hlt3 h, Bool.and_false])
                  have HPM : Hid (1 ≤ i → wr.cell? ⟨mb, mo + (i - 1) * 4, none⟩ = some (.int .i64 (mlAt B.mails (i - 1)).uid)) := fun h1 => by
                    obtain ⟨mb', mo', e, _, _, h5, _⟩ := (HGM.out.go K (Ext.refl _ _)).cells (k := i - 1) (by omega)
                    cases e
                    exact h5
                  generalize mlAt B.mails i = ml at *
                  generalize (mlAt B.mails (i - 1)).uid = pu at *
                  have i0 : (0 : Int) ≤ (i : Int) := by omega
                  have i1 : (i : Int) < (B.mails.length : Int) := by omega
                  go_upto_region 19 with fail
                  rcases Bool.eq_false_or_eq_true (rmB ml) with hrm | hrm
                  · have HRM := Lib.hid hrm
                    clear hrm
                    by_cases hu : ml.uid < B.next
                    · have d1 : decide (B.next ≤ ml.uid) = false := decide_eq_false (by omega)
                      rcases Nat.eq_zero_or_pos i with hi0 | hi0
                      · have d2 : decide ((0 : Int) < (i : Int)) = false := decide_eq_false (by omega)
                        have d2n : decide (0 < i) = false := decide_eq_false (by omega)
                        have HI0 := Lib.hid hi0
                        clear hi0
                        replace OX := Lib.hid (OX.out.alloc (.cells #[.int .i64 ml.uid, .int .i64 ml.flags, .int .i64 ml.obj, .int .i64 ml.size] 73))
                        replace OB := Lib.hid (OB.out.alloc (.cells #[.int .i64 ml.uid, .int .i64 ml.flags, .int .i64 ml.obj, .int .i64 ml.size] 73))
                        have OM := Lib.hid (Own.new wr 73 [.int .i64 ml.uid, .int .i64 ml.flags, .int .i64 ml.obj, .int .i64 ml.size])
                        replace K := K.alloc (.cells #[.int .i64 ml.uid, .int .i64 ml.flags, .int .i64 ml.obj, .int .i64 ml.size] 73)
                        generalize (wr.alloc (.cells #[.int .i64 ml.uid, .int .i64 ml.flags, .int .i64 ml.obj, .int .i64 ml.size] 73)) = wz1 at *
                        have CX0 : ∀ W', Kept wz1 W' → W'.cell? ⟨w.heap.size, 0, none⟩ = some (.slice (some ⟨b, o, none⟩) n c) := fun W' hk => (OX.out.kept hk).cell? 0
                        have CX1 : ∀ W', Kept wz1 W' → W'.cell? ⟨w.heap.size, 1, none⟩ = some (.slice A' j c') := fun W' hk => (OX.out.kept hk).cell? 1
                        have CX2 : ∀ W', Kept wz1 W' → W'.cell? ⟨w.heap.size, 2, none⟩ = some (.int .i64 gv) := fun W' hk => (OX.out.kept hk).cell? 2
                        have CB0 : ∀ W', Kept wz1 W' → W'.cell? ⟨gB, 0, none⟩ = some (.string B.name) := fun W' hk => (OB.out.kept hk).cell? 0
                        have CB1 : ∀ W', Kept wz1 W' → W'.cell? ⟨gB, 1, none⟩ = some (.int .i64 B.val) := fun W' hk => (OB.out.kept hk).cell? 1
                        have CB2 : ∀ W', Kept wz1 W' → W'.cell? ⟨gB, 2, none⟩ = some (.int .i64 B.next) := fun W' hk => (OB.out.kept hk).cell? 2
                        have CB3 : ∀ W', Kept wz1 W' → W'.cell? ⟨gB, 3, none⟩ = some (.slice (some ⟨mb, mo, none⟩) B.mails.length mc) := fun W' hk => (OB.out.kept hk).cell? 3
                        have CM0 : ∀ W', Kept wz1 W' → W'.cell? ⟨wr.heap.size, 0, none⟩ = some (.int .i64 ml.uid) := fun W' hk => (OM.out.kept hk).cell? 0
                        have CM1 : ∀ W', Kept wz1 W' → W'.cell? ⟨wr.heap.size, 1, none⟩ = some (.int .i64 ml.flags) := fun W' hk => (OM.out.kept hk).cell? 1
                        have CM2 : ∀ W', Kept wz1 W' → W'.cell? ⟨wr.heap.size, 2, none⟩ = some (.int .i64 ml.obj) := fun W' hk => (OM.out.kept hk).cell? 2
                        have CM3 : ∀ W', Kept wz1 W' → W'.cell? ⟨wr.heap.size, 3, none⟩ = some (.int .i64 ml.size) := fun W' hk => (OM.out.kept hk).cell? 3
                        refine wp_region_Z (S := fun W' => Kept wz1 W') (Z := []) (by kernel_rfl) ((Kept.refl _).drew) (fun hHeld => ?_)
                        have kr := (Kept.refl wz1).drew
                        replace OX := Lib.hid (OX.out.kept kr)
                        replace OB := Lib.hid (OB.out.kept kr)
                        replace OM := Lib.hid (OM.out.kept kr)
                        replace K := K.trans kr
                        generalize wz1.drew = wz2 at *
                        refine wpAnyZ_take (i := 0) (oi := { dst := some 134, op := Op.load 73 (Operand.tmp 8), type := 73, pos := "ref.go:56", after := #[], guard := none }) (v := ?_) rfl (by kernel_rfl) (fun _ _ _ h => h) (Or.inl ⟨by rfl, ?_⟩) (by assumption) ?_
                        rotate_left
                        · (intro wz hSw; (try dsimp only at hSw); go_simp; (try with_reducible rfl))
                        (try simp only [Act.put, List.setIfInBounds_toArray, List.set_cons_zero, List.set_cons_succ])
                        refine wpAnyZ_ready (rs := [1]) (by kernel_rfl) (by simp) ?_
                        refine AllReadyZ.cons (o := { dst := some 135, op := Op.call { callee := Callee.value (Operand.func 42), args := #[Operand.tmp 134], argTypes := #[73] }, type := 4, pos := "ref.go:56", after := #[{ on := 0, ground := Ground.data }], guard := none }) rfl (fun KK hKK => ?_) AllReadyZ.nil
                        go_simp
                        refine (rmail_any ml wz2).mono ?_
                        rintro e wz3 ⟨rfl, hk⟩
                        clear hHeld
                        replace OX := Lib.hid (OX.out.kept hk)
                        replace OB := Lib.hid (OB.out.kept hk)
                        replace OM := Lib.hid (OM.out.kept hk)
                        replace K := K.trans hk
                        replace kr := kr.trans hk
                        rw [HRM.out]
                        clear hk
                        go_wp2_with fail
                        refine hKK.out _ _ ?_ (fun hHeld => ?_)
                        · exact kr
                        clear hKK KK
                        (try simp only [Act.put, List.setIfInBounds_toArray, List.set_cons_zero, List.set_cons_succ])
                        refine wpAnyZ_take (i := 2) (oi := { dst := some 136, op := Op.unOp UnOp.not 4 (Operand.tmp 135), type := 4, pos := "ref.go:56", after := #[{ on := 1, ground := Ground.data }], guard := none }) (v := ?_) rfl (by kernel_rfl) (fun _ _ _ h => h) (Or.inl ⟨by rfl, ?_⟩) (by assumption) ?_
                        rotate_left
                        · (intro wz hSw; (try dsimp only at hSw); go_simp; (try with_reducible rfl))
                        (try simp only [Act.put, List.setIfInBounds_toArray, List.set_cons_zero, List.set_cons_succ])
                        refine wpAnyZ_take (i := 3) (oi := { dst := some 137, op := Op.move (Operand.tmp 136), type := 4, pos := "ref.go:56", after := #[{ on := 2, ground := Ground.data }, { on := 1, ground := Ground.chain }], guard := none }) (v := ?_) rfl (by kernel_rfl) (fun _ _ _ h => h) (Or.inl ⟨by rfl, ?_⟩) (by assumption) ?_
                        rotate_left
                        · (intro wz hSw; (try dsimp only at hSw); go_simp; (try with_reducible rfl))
                        (try simp only [Act.put, List.setIfInBounds_toArray, List.set_cons_zero, List.set_cons_succ])
                        refine wpAnyZ_take (i := 4) (oi := { dst := some 138, op := Op.fieldAddr 73 (Operand.tmp 8) 0, type := 0, pos := "ref.go:56", after := #[{ on := 3, ground := Ground.guard }], guard := some (3, false) }) (v := ?_) rfl (by kernel_rfl) (fun _ _ _ h => h) (Or.inl ⟨by rfl, ?_⟩) (by assumption) ?_
                        rotate_left
                        · (intro wz hSw; (try dsimp only at hSw); go_simp; (try with_reducible rfl))
                        (try simp only [Act.put, List.setIfInBounds_toArray, List.set_cons_zero, List.set_cons_succ])
                        refine wpAnyZ_take (i := 5) (oi := { dst := some 139, op := Op.load 3 (Operand.tmp 138), type := 3, pos := "ref.go:56", after := #[{ on := 4, ground := Ground.data }, { on := 3, ground := Ground.guard }], guard := some (3, false) }) (v := ?_) rfl (by kernel_rfl) (fun _ _ _ h => h) (Or.inl ⟨by rfl, ?_⟩) (by assumption) ?_
                        rotate_left
                        · (intro wz hSw; (try dsimp only at hSw); go_simp; (try with_reducible rfl))
                        (try simp only [Act.put, List.setIfInBounds_toArray, List.set_cons_zero, List.set_cons_succ])
                        refine wpAnyZ_take (i := 6) (oi := { dst := some 140, op := Op.fieldAddr 43 (Operand.tmp 6) 2, type := 0, pos := "ref.go:56", after := #[{ on := 3, ground := Ground.guard }], guard := some (3, false) }) (v := ?_) rfl (by kernel_rfl) (fun _ _ _ h => h) (Or.inl ⟨by rfl, ?_⟩) (by assumption) ?_
                        rotate_left
                        · (intro wz hSw; (try dsimp only at hSw); go_simp; (try with_reducible rfl))
                        (try simp only [Act.put, List.setIfInBounds_toArray, List.set_cons_zero, List.set_cons_succ])
                        refine wpAnyZ_take (i := 7) (oi := { dst := some 141, op := Op.load 3 (Operand.tmp 140), type := 3, pos := "ref.go:56", after := #[{ on := 6, ground := Ground.data }, { on := 3, ground := Ground.guard }], guard := some (3, false) }) (v := ?_) rfl (by kernel_rfl) (fun _ _ _ h => h) (Or.inl ⟨by rfl, ?_⟩) (by assumption) ?_
                        rotate_left
                        · (intro wz hSw; (try dsimp only at hSw); go_simp; (try with_reducible rfl))
                        (try simp only [Act.put, List.setIfInBounds_toArray, List.set_cons_zero, List.set_cons_succ])
                        refine wpAnyZ_take (i := 8) (oi := { dst := some 142, op := Op.binOp BinOp.geq 3 (Operand.tmp 139) (Operand.tmp 141) 3, type := 4, pos := "ref.go:56", after := #[{ on := 5, ground := Ground.data }, { on := 7, ground := Ground.data }, { on := 3, ground := Ground.guard }], guard := some (3, false) }) (v := ?_) rfl (by kernel_rfl) (fun _ _ _ h => h) (Or.inl ⟨by rfl, ?_⟩) (by assumption) ?_
                        rotate_left
                        · (intro wz hSw; (try dsimp only at hSw); go_simp; (try with_reducible rfl))
                        (try simp only [Act.put, List.setIfInBounds_toArray, List.set_cons_zero, List.set_cons_succ])
                        refine wpAnyZ_take (i := 9) (oi := { dst := some 143, op := Op.pick (Operand.tmp 137) (Operand.const (Value.bool true)) (Operand.tmp 142), type := 4, pos := "ref.go:56", after := #[{ on := 3, ground := Ground.data }, { on := 8, ground := Ground.data }], guard := none }) (v := ?_) rfl (by kernel_rfl) (fun _ _ _ h => h) (Or.inl ⟨by rfl, ?_⟩) (by assumption) ?_
                        rotate_left
                        · (intro wz hSw; (try dsimp only at hSw); go_simp; (try with_reducible rfl))
                        (try simp only [Act.put, List.setIfInBounds_toArray, List.set_cons_zero, List.set_cons_succ])
                        refine wpAnyZ_take (i := 10) (oi := { dst := some 144, op := Op.move (Operand.tmp 143), type := 4, pos := "ref.go:56", after := #[{ on := 9, ground := Ground.data }, { on := 3, ground := Ground.chain }], guard := none }) (v := ?_) rfl (by kernel_rfl) (fun _ _ _ h => h) (Or.inl ⟨by rfl, ?_⟩) (by assumption) ?_
                        rotate_left
                        · (intro wz hSw; (try dsimp only at hSw); go_simp; (try with_reducible rfl))
                        (try simp only [Act.put, List.setIfInBounds_toArray, List.set_cons_zero, List.set_cons_succ])
                        refine wpAnyZ_take (i := 11) (oi := { dst := some 145, op := Op.move (Operand.tmp 7), type := 3, pos := "ref.go:56", after := #[{ on := 10, ground := Ground.guard }], guard := some (10, false) }) (v := ?_) rfl (by kernel_rfl) (fun _ _ _ h => h) (Or.inl ⟨by rfl, ?_⟩) (by assumption) ?_
                        rotate_left
                        · (intro wz hSw; (try dsimp only at hSw); go_simp; (try with_reducible rfl))
                        (try simp only [Act.put, List.setIfInBounds_toArray, List.set_cons_zero, List.set_cons_succ])
                        refine wpAnyZ_take (i := 12) (oi := { dst := some 146, op := Op.binOp BinOp.gtr 3 (Operand.tmp 145) (Operand.const (Value.int IntKind.i64 0)) 3, type := 4, pos := "ref.go:56", after := #[{ on := 11, ground := Ground.data }, { on := 10, ground := Ground.guard }], guard := some (10, false) }) (v := ?_) rfl (by kernel_rfl) (fun _ _ _ h => h) (Or.inl ⟨by rfl, ?_⟩) (by assumption) ?_
                        rotate_left
                        · (intro wz hSw; (try dsimp only at hSw); go_simp; (try with_reducible rfl))
                        (try simp only [Act.put, List.setIfInBounds_toArray, List.set_cons_zero, List.set_cons_succ])
                        refine wpAnyZ_take (i := 13) (oi := { dst := some 147, op := Op.move (Operand.tmp 146), type := 4, pos := "ref.go:56", after := #[{ on := 12, ground := Ground.data }, { on := 10, ground := Ground.chain }, { on := 10, ground := Ground.guard }], guard := some (10, false) }) (v := ?_) rfl (by kernel_rfl) (fun _ _ _ h => h) (Or.inl ⟨by rfl, ?_⟩) (by assumption) ?_
                        rotate_left
                        · (intro wz hSw; (try dsimp only at hSw); go_simp; (try with_reducible rfl))
                        (try simp only [Act.put, List.setIfInBounds_toArray, List.set_cons_zero, List.set_cons_succ])
                        refine wpAnyZ_take (i := 14) (oi := { dst := some 148, op := Op.fieldAddr 43 (Operand.tmp 6) 3, type := 0, pos := "ref.go:56", after := #[{ on := 13, ground := Ground.guard }], guard := some (13, true) }) (v := undef) rfl (by kernel_rfl) (fun _ _ _ h => h) (Or.inr ⟨by rfl, rfl⟩) (by assumption) ?_
                        (try simp only [Act.put, List.setIfInBounds_toArray, List.set_cons_zero, List.set_cons_succ])
                        refine wpAnyZ_take (i := 15) (oi := { dst := some 149, op := Op.load 41 (Operand.tmp 148), type := 41, pos := "ref.go:56", after := #[{ on := 14, ground := Ground.data }, { on := 13, ground := Ground.guard }], guard := some (13, true) }) (v := undef) rfl (by kernel_rfl) (fun _ _ _ h => h) (Or.inr ⟨by rfl, rfl⟩) (by assumption) ?_
                        (try simp only [Act.put, List.setIfInBounds_toArray, List.set_cons_zero, List.set_cons_succ])
                        refine wpAnyZ_take (i := 16) (oi := { dst := some 150, op := Op.move (Operand.tmp 7), type := 3, pos := "ref.go:56", after := #[{ on := 13, ground := Ground.guard }], guard := some (13, true) }) (v := undef) rfl (by kernel_rfl) (fun _ _ _ h => h) (Or.inr ⟨by rfl, rfl⟩) (by assumption) ?_
                        (try simp only [Act.put, List.setIfInBounds_toArray, List.set_cons_zero, List.set_cons_succ])
                        refine wpAnyZ_take (i := 17) (oi := { dst := some 151, op := Op.binOp BinOp.sub 3 (Operand.tmp 150) (Operand.const (Value.int IntKind.i64 1)) 3, type := 3, pos := "ref.go:56", after := #[{ on := 16, ground := Ground.data }, { on := 13, ground := Ground.guard }], guard := some (13, true) }) (v := undef) rfl (by kernel_rfl) (fun _ _ _ h => h) (Or.inr ⟨by rfl, rfl⟩) (by assumption) ?_
                        (try simp only [Act.put, List.setIfInBounds_toArray, List.set_cons_zero, List.set_cons_succ])
                        refine wpAnyZ_take (i := 18) (oi := { dst := some 152, op := Op.indexAddr 41 (Operand.tmp 149) (Operand.tmp 151), type := 0, pos := "ref.go:56", after := #[{ on := 15, ground := Ground.data }, { on := 17, ground := Ground.data }, { on := 13, ground := Ground.guard }], guard := some (13, true) }) (v := undef) rfl (by kernel_rfl) (fun _ _ _ h => h) (Or.inr ⟨by rfl, rfl⟩) (by assumption) ?_
                        (try simp only [Act.put, List.setIfInBounds_toArray, List.set_cons_zero, List.set_cons_succ])
                        refine wpAnyZ_take (i := 19) (oi := { dst := some 153, op := Op.fieldAddr 73 (Operand.tmp 152) 0, type := 0, pos := "ref.go:56", after := #[{ on := 18, ground := Ground.data }, { on := 13, ground := Ground.guard }], guard := some (13, true) }) (v := undef) rfl (by kernel_rfl) (fun _ _ _ h => h) (Or.inr ⟨by rfl, rfl⟩) (by assumption) ?_
                        (try simp only [Act.put, List.setIfInBounds_toArray, List.set_cons_zero, List.set_cons_succ])
                        refine wpAnyZ_take (i := 20) (oi := { dst := some 154, op := Op.load 3 (Operand.tmp 153), type := 3, pos := "ref.go:56", after := #[{ on := 19, ground := Ground.data }, { on := 13, ground := Ground.guard }], guard := some (13, true) }) (v := undef) rfl (by kernel_rfl) (fun _ _ _ h => h) (Or.inr ⟨by rfl, rfl⟩) (by assumption) ?_
                        (try simp only [Act.put, List.setIfInBounds_toArray, List.set_cons_zero, List.set_cons_succ])
                        refine wpAnyZ_take (i := 21) (oi := { dst := some 155, op := Op.fieldAddr 73 (Operand.tmp 8) 0, type := 0, pos := "ref.go:56", after := #[{ on := 13, ground := Ground.guard }], guard := some (13, true) }) (v := undef) rfl (by kernel_rfl) (fun _ _ _ h => h) (Or.inr ⟨by rfl, rfl⟩) (by assumption) ?_
                        (try simp only [Act.put, List.setIfInBounds_toArray, List.set_cons_zero, List.set_cons_succ])
                        refine wpAnyZ_take (i := 22) (oi := { dst := some 156, op := Op.load 3 (Operand.tmp 155), type := 3, pos := "ref.go:56", after := #[{ on := 21, ground := Ground.data }, { on := 13, ground := Ground.guard }], guard := some (13, true) }) (v := undef) rfl (by kernel_rfl) (fun _ _ _ h => h) (Or.inr ⟨by rfl, rfl⟩) (by assumption) ?_
                        (try simp only [Act.put, List.setIfInBounds_toArray, List.set_cons_zero, List.set_cons_succ])
                        refine wpAnyZ_take (i := 23) (oi := { dst := some 157, op := Op.binOp BinOp.geq 3 (Operand.tmp 154) (Operand.tmp 156) 3, type := 4, pos := "ref.go:56", after := #[{ on := 20, ground := Ground.data }, { on := 22, ground := Ground.data }, { on := 13, ground := Ground.guard }], guard := some (13, true) }) (v := undef) rfl (by kernel_rfl) (fun _ _ _ h => h) (Or.inr ⟨by rfl, rfl⟩) (by assumption) ?_
                        (try simp only [Act.put, List.setIfInBounds_toArray, List.set_cons_zero, List.set_cons_succ])
                        refine wpAnyZ_take (i := 24) (oi := { dst := some 158, op := Op.pick (Operand.tmp 147) (Operand.tmp 157) (Operand.const (Value.bool false)), type := 4, pos := "ref.go:56", after := #[{ on := 13, ground := Ground.data }, { on := 23, ground := Ground.data }, { on := 10, ground := Ground.guard }], guard := some (10, false) }) (v := ?_) rfl (by kernel_rfl) (fun _ _ _ h => h) (Or.inl ⟨by rfl, ?_⟩) (by assumption) ?_
                        rotate_left
                        · (intro wz hSw; (try dsimp only at hSw); go_simp; (try with_reducible rfl))
                        (try simp only [Act.put, List.setIfInBounds_toArray, List.set_cons_zero, List.set_cons_succ])
                        refine wpAnyZ_take (i := 25) (oi := { dst := some 159, op := Op.pick (Operand.tmp 144) (Operand.const (Value.bool true)) (Operand.tmp 158), type := 4, pos := "ref.go:56", after := #[{ on := 10, ground := Ground.data }, { on := 24, ground := Ground.data }], guard := none }) (v := ?_) rfl (by kernel_rfl) (fun _ _ _ h => h) (Or.inl ⟨by rfl, ?_⟩) (by assumption) ?_
                        rotate_left
                        · (intro wz hSw; (try dsimp only at hSw); go_simp; (try with_reducible rfl))
                        (try simp only [Act.put, List.setIfInBounds_toArray, List.set_cons_zero, List.set_cons_succ])
                        refine wpAnyZ_done (by kernel_rfl) ?_ _
                        clear CX0 CX1 CX2 CB0 CB1 CB2 CB3 CM0 CM1 CM2 CM3 hHeld kr
                        go_wp2
                        go_roundw
                        case rel =>
                          have HREL : ∀ l, l < i + 1 → mailC B.mails B.next l = true := fun l hl => by
                            by_cases e : l = i
                            · subst e; rw [HMC.out, HRM.out]; simp; exact ⟨hu, by have := HI0.out; omega⟩
                            · exact HI.out l (by omega)
                          first
                            | exact ⟨i + 1, by omega, by go_num, by go_num, HREL, OB.out, OX.out, K⟩
                            | ((repeat apply Exists.intro); exact ⟨⟨i + 1, by omega, by go_num, by go_num, HREL, OB.out, OX.out, K⟩, rfl⟩)
                        case measure => simp [intOf]; omega
                      · have j0 : (0 : Int) < (i : Int) := by omega
                        have gp := HPM.out hi0
                        have d2 : decide ((0 : Int) < (i : Int)) = true := decide_eq_true (by omega)
                        have j5 : (1 : Int) ≤ (i : Int) := by omega
                        have j1 : (0 : Int) ≤ (i : Int) - 1 := by omega
                        have j2 : (i : Int) - 1 < (B.mails.length : Int) := by omega
                        have j3 : ((i : Int) - 1).toNat = i - 1 := by omega
                        have j4 : IntKind.i64.wrap ((i : Int) - 1) = (i : Int) - 1 := IntWalk.i64_in _ (by omega)
                        have GP : ∀ v : Obj, (wr.alloc v).cell? ⟨mb, mo + (i - 1) * 4, none⟩ = some (.int .i64 pu) := fun v => (World.cell?_alloc_lt _ _ _ hmb).trans gp
                        have gpz := GP (.cells #[.int .i64 ml.uid, .int .i64 ml.flags, .int .i64 ml.obj, .int .i64 ml.size] 73)
                        clear GP gp
                        by_cases hp : ml.uid ≤ pu
                        · have d3 : decide (ml.uid ≤ pu) = true := decide_eq_true hp
                          replace OX := Lib.hid (OX.out.alloc (.cells #[.int .i64 ml.uid, .int .i64 ml.flags, .int .i64 ml.obj, .int .i64 ml.size] 73))
                          replace OB := Lib.hid (OB.out.alloc (.cells #[.int .i64 ml.uid, .int .i64 ml.flags, .int .i64 ml.obj, .int .i64 ml.size] 73))
                          have OM := Lib.hid (Own.new wr 73 [.int .i64 ml.uid, .int .i64 ml.flags, .int .i64 ml.obj, .int .i64 ml.size])
                          replace K := K.alloc (.cells #[.int .i64 ml.uid, .int .i64 ml.flags, .int .i64 ml.obj, .int .i64 ml.size] 73)
                          generalize (wr.alloc (.cells #[.int .i64 ml.uid, .int .i64 ml.flags, .int .i64 ml.obj, .int .i64 ml.size] 73)) = wz1 at *
                          have CX0 : ∀ W', Kept wz1 W' → W'.cell? ⟨w.heap.size, 0, none⟩ = some (.slice (some ⟨b, o, none⟩) n c) := fun W' hk => (OX.out.kept hk).cell? 0
                          have CX1 : ∀ W', Kept wz1 W' → W'.cell? ⟨w.heap.size, 1, none⟩ = some (.slice A' j c') := fun W' hk => (OX.out.kept hk).cell? 1
                          have CX2 : ∀ W', Kept wz1 W' → W'.cell? ⟨w.heap.size, 2, none⟩ = some (.int .i64 gv) := fun W' hk => (OX.out.kept hk).cell? 2
                          have CB0 : ∀ W', Kept wz1 W' → W'.cell? ⟨gB, 0, none⟩ = some (.string B.name) := fun W' hk => (OB.out.kept hk).cell? 0
                          have CB1 : ∀ W', Kept wz1 W' → W'.cell? ⟨gB, 1, none⟩ = some (.int .i64 B.val) := fun W' hk => (OB.out.kept hk).cell? 1
                          have CB2 : ∀ W', Kept wz1 W' → W'.cell? ⟨gB, 2, none⟩ = some (.int .i64 B.next) := fun W' hk => (OB.out.kept hk).cell? 2
                          have CB3 : ∀ W', Kept wz1 W' → W'.cell? ⟨gB, 3, none⟩ = some (.slice (some ⟨mb, mo, none⟩) B.mails.length mc) := fun W' hk => (OB.out.kept hk).cell? 3
                          have CM0 : ∀ W', Kept wz1 W' → W'.cell? ⟨wr.heap.size, 0, none⟩ = some (.int .i64 ml.uid) := fun W' hk => (OM.out.kept hk).cell? 0
                          have CM1 : ∀ W', Kept wz1 W' → W'.cell? ⟨wr.heap.size, 1, none⟩ = some (.int .i64 ml.flags) := fun W' hk => (OM.out.kept hk).cell? 1
                          have CM2 : ∀ W', Kept wz1 W' → W'.cell? ⟨wr.heap.size, 2, none⟩ = some (.int .i64 ml.obj) := fun W' hk => (OM.out.kept hk).cell? 2
                          have CM3 : ∀ W', Kept wz1 W' → W'.cell? ⟨wr.heap.size, 3, none⟩ = some (.int .i64 ml.size) := fun W' hk => (OM.out.kept hk).cell? 3
                          have CP : ∀ W', Kept wz1 W' → W'.cell? ⟨mb, mo + (i - 1) * 4, none⟩ = some (.int .i64 pu) := fun W' hk => (hk.cell (p := ⟨mb, mo + (i - 1) * 4, none⟩) (show mb < _ by have := OM.out.lt; omega)).trans gpz
                          refine wp_region_Z (S := fun W' => Kept wz1 W') (Z := []) (by kernel_rfl) ((Kept.refl _).drew) (fun hHeld => ?_)
                          have kr := (Kept.refl wz1).drew
                          replace OX := Lib.hid (OX.out.kept kr)
                          replace OB := Lib.hid (OB.out.kept kr)
                          replace OM := Lib.hid (OM.out.kept kr)
                          replace K := K.trans kr
                          generalize wz1.drew = wz2 at *
                          refine wpAnyZ_take (i := 0) (oi := { dst := some 134, op := Op.load 73 (Operand.tmp 8), type := 73, pos := "ref.go:56", after := #[], guard := none }) (v := ?_) rfl (by kernel_rfl) (fun _ _ _ h => h) (Or.inl ⟨by rfl, ?_⟩) (by assumption) ?_
                          rotate_left
                          · (intro wz hSw; (try dsimp only at hSw); go_simp; (try with_reducible rfl))
                          (try simp only [Act.put, List.setIfInBounds_toArray, List.set_cons_zero, List.set_cons_succ])
                          refine wpAnyZ_ready (rs := [1]) (by kernel_rfl) (by simp) ?_
                          refine AllReadyZ.cons (o := { dst := some 135, op := Op.call { callee := Callee.value (Operand.func 42), args := #[Operand.tmp 134], argTypes := #[73] }, type := 4, pos := "ref.go:56", after := #[{ on := 0, ground := Ground.data }], guard := none }) rfl (fun KK hKK => ?_) AllReadyZ.nil
                          go_simp
                          refine (rmail_any ml wz2).mono ?_
                          rintro e wz3 ⟨rfl, hk⟩
                          clear hHeld
                          replace OX := Lib.hid (OX.out.kept hk)
                          replace OB := Lib.hid (OB.out.kept hk)
                          replace OM := Lib.hid (OM.out.kept hk)
                          replace K := K.trans hk
                          replace kr := kr.trans hk
                          rw [HRM.out]
                          clear hk
                          go_wp2_with fail
                          refine hKK.out _ _ ?_ (fun hHeld => ?_)
                          · exact kr
                          clear hKK KK
                          (try simp only [Act.put, List.setIfInBounds_toArray, List.set_cons_zero, List.set_cons_succ])
                          refine wpAnyZ_take (i := 2) (oi := { dst := some 136, op := Op.unOp UnOp.not 4 (Operand.tmp 135), type := 4, pos := "ref.go:56", after := #[{ on := 1, ground := Ground.data }], guard := none }) (v := ?_) rfl (by kernel_rfl) (fun _ _ _ h => h) (Or.inl ⟨by rfl, ?_⟩) (by assumption) ?_
                          rotate_left
                          · (intro wz hSw; (try dsimp only at hSw); go_simp; (try with_reducible rfl))
                          (try simp only [Act.put, List.setIfInBounds_toArray, List.set_cons_zero, List.set_cons_succ])
                          refine wpAnyZ_take (i := 3) (oi := { dst := some 137, op := Op.move (Operand.tmp 136), type := 4, pos := "ref.go:56", after := #[{ on := 2, ground := Ground.data }, { on := 1, ground := Ground.chain }], guard := none }) (v := ?_) rfl (by kernel_rfl) (fun _ _ _ h => h) (Or.inl ⟨by rfl, ?_⟩) (by assumption) ?_
                          rotate_left
                          · (intro wz hSw; (try dsimp only at hSw); go_simp; (try with_reducible rfl))
                          (try simp only [Act.put, List.setIfInBounds_toArray, List.set_cons_zero, List.set_cons_succ])
                          refine wpAnyZ_take (i := 4) (oi := { dst := some 138, op := Op.fieldAddr 73 (Operand.tmp 8) 0, type := 0, pos := "ref.go:56", after := #[{ on := 3, ground := Ground.guard }], guard := some (3, false) }) (v := ?_) rfl (by kernel_rfl) (fun _ _ _ h => h) (Or.inl ⟨by rfl, ?_⟩) (by assumption) ?_
                          rotate_left
                          · (intro wz hSw; (try dsimp only at hSw); go_simp; (try with_reducible rfl))
                          (try simp only [Act.put, List.setIfInBounds_toArray, List.set_cons_zero, List.set_cons_succ])
                          refine wpAnyZ_take (i := 5) (oi := { dst := some 139, op := Op.load 3 (Operand.tmp 138), type := 3, pos := "ref.go:56", after := #[{ on := 4, ground := Ground.data }, { on := 3, ground := Ground.guard }], guard := some (3, false) }) (v := ?_) rfl (by kernel_rfl) (fun _ _ _ h => h) (Or.inl ⟨by rfl, ?_⟩) (by assumption) ?_
                          rotate_left
                          · (intro wz hSw; (try dsimp only at hSw); go_simp; (try with_reducible rfl))
                          (try simp only [Act.put, List.setIfInBounds_toArray, List.set_cons_zero, List.set_cons_succ])
                          refine wpAnyZ_take (i := 6) (oi := { dst := some 140, op := Op.fieldAddr 43 (Operand.tmp 6) 2, type := 0, pos := "ref.go:56", after := #[{ on := 3, ground := Ground.guard }], guard := some (3, false) }) (v := ?_) rfl (by kernel_rfl) (fun _ _ _ h => h) (Or.inl ⟨by rfl, ?_⟩) (by assumption) ?_
                          rotate_left
                          · (intro wz hSw; (try dsimp only at hSw); go_simp; (try with_reducible rfl))
                          (try simp only [Act.put, List.setIfInBounds_toArray, List.set_cons_zero, List.set_cons_succ])
                          refine wpAnyZ_take (i := 7) (oi := { dst := some 141, op := Op.load 3 (Operand.tmp 140), type := 3, pos := "ref.go:56", after := #[{ on := 6, ground := Ground.data }, { on := 3, ground := Ground.guard }], guard := some (3, false) }) (v := ?_) rfl (by kernel_rfl) (fun _ _ _ h => h) (Or.inl ⟨by rfl, ?_⟩) (by assumption) ?_
                          rotate_left
                          · (intro wz hSw; (try dsimp only at hSw); go_simp; (try with_reducible rfl))
                          (try simp only [Act.put, List.setIfInBounds_toArray, List.set_cons_zero, List.set_cons_succ])
                          refine wpAnyZ_take (i := 8) (oi := { dst := some 142, op := Op.binOp BinOp.geq 3 (Operand.tmp 139) (Operand.tmp 141) 3, type := 4, pos := "ref.go:56", after := #[{ on := 5, ground := Ground.data }, { on := 7, ground := Ground.data }, { on := 3, ground := Ground.guard }], guard := some (3, false) }) (v := ?_) rfl (by kernel_rfl) (fun _ _ _ h => h) (Or.inl ⟨by rfl, ?_⟩) (by assumption) ?_
                          rotate_left
                          · (intro wz hSw; (try dsimp only at hSw); go_simp; (try with_reducible rfl))
                          (try simp only [Act.put, List.setIfInBounds_toArray, List.set_cons_zero, List.set_cons_succ])
                          refine wpAnyZ_take (i := 9) (oi := { dst := some 143, op := Op.pick (Operand.tmp 137) (Operand.const (Value.bool true)) (Operand.tmp 142), type := 4, pos := "ref.go:56", after := #[{ on := 3, ground := Ground.data }, { on := 8, ground := Ground.data }], guard := none }) (v := ?_) rfl (by kernel_rfl) (fun _ _ _ h => h) (Or.inl ⟨by rfl, ?_⟩) (by assumption) ?_
                          rotate_left
                          · (intro wz hSw; (try dsimp only at hSw); go_simp; (try with_reducible rfl))
                          (try simp only [Act.put, List.setIfInBounds_toArray, List.set_cons_zero, List.set_cons_succ])
                          refine wpAnyZ_take (i := 10) (oi := { dst := some 144, op := Op.move (Operand.tmp 143), type := 4, pos := "ref.go:56", after := #[{ on := 9, ground := Ground.data }, { on := 3, ground := Ground.chain }], guard := none }) (v := ?_) rfl (by kernel_rfl) (fun _ _ _ h => h) (Or.inl ⟨by rfl, ?_⟩) (by assumption) ?_
                          rotate_left
                          · (intro wz hSw; (try dsimp only at hSw); go_simp; (try with_reducible rfl))
                          (try simp only [Act.put, List.setIfInBounds_toArray, List.set_cons_zero, List.set_cons_succ])
                          refine wpAnyZ_take (i := 11) (oi := { dst := some 145, op := Op.move (Operand.tmp 7), type := 3, pos := "ref.go:56", after := #[{ on := 10, ground := Ground.guard }], guard := some (10, false) }) (v := ?_) rfl (by kernel_rfl) (fun _ _ _ h => h) (Or.inl ⟨by rfl, ?_⟩) (by assumption) ?_
                          rotate_left
                          · (intro wz hSw; (try dsimp only at hSw); go_simp; (try with_reducible rfl))
                          (try simp only [Act.put, List.setIfInBounds_toArray, List.set_cons_zero, List.set_cons_succ])
                          refine wpAnyZ_take (i := 12) (oi := { dst := some 146, op := Op.binOp BinOp.gtr 3 (Operand.tmp 145) (Operand.const (Value.int IntKind.i64 0)) 3, type := 4, pos := "ref.go:56", after := #[{ on := 11, ground := Ground.data }, { on := 10, ground := Ground.guard }], guard := some (10, false) }) (v := ?_) rfl (by kernel_rfl) (fun _ _ _ h => h) (Or.inl ⟨by rfl, ?_⟩) (by assumption) ?_
                          rotate_left
                          · (intro wz hSw; (try dsimp only at hSw); go_simp; (try with_reducible rfl))
                          (try simp only [Act.put, List.setIfInBounds_toArray, List.set_cons_zero, List.set_cons_succ])
                          refine wpAnyZ_take (i := 13) (oi := { dst := some 147, op := Op.move (Operand.tmp 146), type := 4, pos := "ref.go:56", after := #[{ on := 12, ground := Ground.data }, { on := 10, ground := Ground.chain }, { on := 10, ground := Ground.guard }], guard := some (10, false) }) (v := ?_) rfl (by kernel_rfl) (fun _ _ _ h => h) (Or.inl ⟨by rfl, ?_⟩) (by assumption) ?_
                          rotate_left
                          · (intro wz hSw; (try dsimp only at hSw); go_simp; (try with_reducible rfl))
                          (try simp only [Act.put, List.setIfInBounds_toArray, List.set_cons_zero, List.set_cons_succ])
                          refine wpAnyZ_take (i := 14) (oi := { dst := some 148, op := Op.fieldAddr 43 (Operand.tmp 6) 3, type := 0, pos := "ref.go:56", after := #[{ on := 13, ground := Ground.guard }], guard := some (13, true) }) (v := ?_) rfl (by kernel_rfl) (fun _ _ _ h => h) (Or.inl ⟨by rfl, ?_⟩) (by assumption) ?_
                          rotate_left
                          · (intro wz hSw; (try dsimp only at hSw); go_simp; (try with_reducible rfl))
                          (try simp only [Act.put, List.setIfInBounds_toArray, List.set_cons_zero, List.set_cons_succ])
                          refine wpAnyZ_take (i := 15) (oi := { dst := some 149, op := Op.load 41 (Operand.tmp 148), type := 41, pos := "ref.go:56", after := #[{ on := 14, ground := Ground.data }, { on := 13, ground := Ground.guard }], guard := some (13, true) }) (v := ?_) rfl (by kernel_rfl) (fun _ _ _ h => h) (Or.inl ⟨by rfl, ?_⟩) (by assumption) ?_
                          rotate_left
                          · (intro wz hSw; (try dsimp only at hSw); go_simp; (try with_reducible rfl))
                          (try simp only [Act.put, List.setIfInBounds_toArray, List.set_cons_zero, List.set_cons_succ])
                          refine wpAnyZ_take (i := 16) (oi := { dst := some 150, op := Op.move (Operand.tmp 7), type := 3, pos := "ref.go:56", after := #[{ on := 13, ground := Ground.guard }], guard := some (13, true) }) (v := ?_) rfl (by kernel_rfl) (fun _ _ _ h => h) (Or.inl ⟨by rfl, ?_⟩) (by assumption) ?_
                          rotate_left
                          · (intro wz hSw; (try dsimp only at hSw); go_simp; (try with_reducible rfl))
                          (try simp only [Act.put, List.setIfInBounds_toArray, List.set_cons_zero, List.set_cons_succ])
                          refine wpAnyZ_take (i := 17) (oi := { dst := some 151, op := Op.binOp BinOp.sub 3 (Operand.tmp 150) (Operand.const (Value.int IntKind.i64 1)) 3, type := 3, pos := "ref.go:56", after := #[{ on := 16, ground := Ground.data }, { on := 13, ground := Ground.guard }], guard := some (13, true) }) (v := ?_) rfl (by kernel_rfl) (fun _ _ _ h => h) (Or.inl ⟨by rfl, ?_⟩) (by assumption) ?_
                          rotate_left
                          · (intro wz hSw; (try dsimp only at hSw); go_simp; (try with_reducible rfl))
                          (try simp only [Act.put, List.setIfInBounds_toArray, List.set_cons_zero, List.set_cons_succ])
                          refine wpAnyZ_take (i := 18) (oi := { dst := some 152, op := Op.indexAddr 41 (Operand.tmp 149) (Operand.tmp 151), type := 0, pos := "ref.go:56", after := #[{ on := 15, ground := Ground.data }, { on := 17, ground := Ground.data }, { on := 13, ground := Ground.guard }], guard := some (13, true) }) (v := ?_) rfl (by kernel_rfl) (fun _ _ _ h => h) (Or.inl ⟨by rfl, ?_⟩) (by assumption) ?_
                          rotate_left
                          · (intro wz hSw; (try dsimp only at hSw); go_simp; (try with_reducible rfl))
                          (try simp only [Act.put, List.setIfInBounds_toArray, List.set_cons_zero, List.set_cons_succ])
                          refine wpAnyZ_take (i := 19) (oi := { dst := some 153, op := Op.fieldAddr 73 (Operand.tmp 152) 0, type := 0, pos := "ref.go:56", after := #[{ on := 18, ground := Ground.data }, { on := 13, ground := Ground.guard }], guard := some (13, true) }) (v := ?_) rfl (by kernel_rfl) (fun _ _ _ h => h) (Or.inl ⟨by rfl, ?_⟩) (by assumption) ?_
                          rotate_left
                          · (intro wz hSw; (try dsimp only at hSw); go_simp; (try with_reducible rfl))
                          (try simp only [Act.put, List.setIfInBounds_toArray, List.set_cons_zero, List.set_cons_succ])
                          refine wpAnyZ_take (i := 20) (oi := { dst := some 154, op := Op.load 3 (Operand.tmp 153), type := 3, pos := "ref.go:56", after := #[{ on := 19, ground := Ground.data }, { on := 13, ground := Ground.guard }], guard := some (13, true) }) (v := ?_) rfl (by kernel_rfl) (fun _ _ _ h => h) (Or.inl ⟨by rfl, ?_⟩) (by assumption) ?_
                          rotate_left
                          · (intro wz hSw; (try dsimp only at hSw); go_simp; (try with_reducible rfl))
                          (try simp only [Act.put, List.setIfInBounds_toArray, List.set_cons_zero, List.set_cons_succ])
                          refine wpAnyZ_take (i := 21) (oi := { dst := some 155, op := Op.fieldAddr 73 (Operand.tmp 8) 0, type := 0, pos := "ref.go:56", after := #[{ on := 13, ground := Ground.guard }], guard := some (13, true) }) (v := ?_) rfl (by kernel_rfl) (fun _ _ _ h => h) (Or.inl ⟨by rfl, ?_⟩) (by assumption) ?_
                          rotate_left
                          · (intro wz hSw; (try dsimp only at hSw); go_simp; (try with_reducible rfl))
                          (try simp only [Act.put, List.setIfInBounds_toArray, List.set_cons_zero, List.set_cons_succ])
                          refine wpAnyZ_take (i := 22) (oi := { dst := some 156, op := Op.load 3 (Operand.tmp 155), type := 3, pos := "ref.go:56", after := #[{ on := 21, ground := Ground.data }, { on := 13, ground := Ground.guard }], guard := some (13, true) }) (v := ?_) rfl (by kernel_rfl) (fun _ _ _ h => h) (Or.inl ⟨by rfl, ?_⟩) (by assumption) ?_
                          rotate_left
                          · (intro wz hSw; (try dsimp only at hSw); go_simp; (try with_reducible rfl))
                          (try simp only [Act.put, List.setIfInBounds_toArray, List.set_cons_zero, List.set_cons_succ])
                          refine wpAnyZ_take (i := 23) (oi := { dst := some 157, op := Op.binOp BinOp.geq 3 (Operand.tmp 154) (Operand.tmp 156) 3, type := 4, pos := "ref.go:56", after := #[{ on := 20, ground := Ground.data }, { on := 22, ground := Ground.data }, { on := 13, ground := Ground.guard }], guard := some (13, true) }) (v := ?_) rfl (by kernel_rfl) (fun _ _ _ h => h) (Or.inl ⟨by rfl, ?_⟩) (by assumption) ?_
                          rotate_left
                          · (intro wz hSw; (try dsimp only at hSw); go_simp; (try with_reducible rfl))
                          (try simp only [Act.put, List.setIfInBounds_toArray, List.set_cons_zero, List.set_cons_succ])
                          refine wpAnyZ_take (i := 24) (oi := { dst := some 158, op := Op.pick (Operand.tmp 147) (Operand.tmp 157) (Operand.const (Value.bool false)), type := 4, pos := "ref.go:56", after := #[{ on := 13, ground := Ground.data }, { on := 23, ground := Ground.data }, { on := 10, ground := Ground.guard }], guard := some (10, false) }) (v := ?_) rfl (by kernel_rfl) (fun _ _ _ h => h) (Or.inl ⟨by rfl, ?_⟩) (by assumption) ?_
                          rotate_left
                          · (intro wz hSw; (try dsimp only at hSw); go_simp; (try with_reducible rfl))
                          (try simp only [Act.put, List.setIfInBounds_toArray, List.set_cons_zero, List.set_cons_succ])
                          refine wpAnyZ_take (i := 25) (oi := { dst := some 159, op := Op.pick (Operand.tmp 144) (Operand.const (Value.bool true)) (Operand.tmp 158), type := 4, pos := "ref.go:56", after := #[{ on := 10, ground := Ground.data }, { on := 24, ground := Ground.data }], guard := none }) (v := ?_) rfl (by kernel_rfl) (fun _ _ _ h => h) (Or.inl ⟨by rfl, ?_⟩) (by assumption) ?_
                          rotate_left
                          · (intro wz hSw; (try dsimp only at hSw); go_simp; (try with_reducible rfl))
                          (try simp only [Act.put, List.setIfInBounds_toArray, List.set_cons_zero, List.set_cons_succ])
                          refine wpAnyZ_done (by kernel_rfl) ?_ _
                          clear CX0 CX1 CX2 CB0 CB1 CB2 CB3 CM0 CM1 CM2 CM3 CP hHeld kr
                          go_wp2
                          go_ret
                          exact ⟨ret_bool (HNO2.out (by rw [HMC.out, HRM.out]; simp; omega)), K⟩
                        · have d3 : decide (ml.uid ≤ pu) = false := decide_eq_false hp
                          replace OX := Lib.hid (OX.out.alloc (.cells #[.int .i64 ml.uid, .int .i64 ml.flags, .int .i64 ml.obj, .int .i64 ml.size] 73))
                          replace OB := Lib.hid (OB.out.alloc (.cells #[.int .i64 ml.uid, .int .i64 ml.flags, .int .i64 ml.obj, .int .i64 ml.size] 73))
                          have OM := Lib.hid (Own.new wr 73 [.int .i64 ml.uid, .int .i64 ml.flags, .int .i64 ml.obj, .int .i64 ml.size])
                          replace K := K.alloc (.cells #[.int .i64 ml.uid, .int .i64 ml.flags, .int .i64 ml.obj, .int .i64 ml.size] 73)
                          generalize (wr.alloc (.cells #[.int .i64 ml.uid, .int .i64 ml.flags, .int .i64 ml.obj, .int .i64 ml.size] 73)) = wz1 at *
                          have CX0 : ∀ W', Kept wz1 W' → W'.cell? ⟨w.heap.size, 0, none⟩ = some (.slice (some ⟨b, o, none⟩) n c) := fun W' hk => (OX.out.kept hk).cell? 0
                          have CX1 : ∀ W', Kept wz1 W' → W'.cell? ⟨w.heap.size, 1, none⟩ = some (.slice A' j c') := fun W' hk => (OX.out.kept hk).cell? 1
                          have CX2 : ∀ W', Kept wz1 W' → W'.cell? ⟨w.heap.size, 2, none⟩ = some (.int .i64 gv) := fun W' hk => (OX.out.kept hk).cell? 2
                          have CB0 : ∀ W', Kept wz1 W' → W'.cell? ⟨gB, 0, none⟩ = some (.string B.name) := fun W' hk => (OB.out.kept hk).cell? 0
                          have CB1 : ∀ W', Kept wz1 W' → W'.cell? ⟨gB, 1, none⟩ = some (.int .i64 B.val) := fun W' hk => (OB.out.kept hk).cell? 1
                          have CB2 : ∀ W', Kept wz1 W' → W'.cell? ⟨gB, 2, none⟩ = some (.int .i64 B.next) := fun W' hk => (OB.out.kept hk).cell? 2
                          have CB3 : ∀ W', Kept wz1 W' → W'.cell? ⟨gB, 3, none⟩ = some (.slice (some ⟨mb, mo, none⟩) B.mails.length mc) := fun W' hk => (OB.out.kept hk).cell? 3
                          have CM0 : ∀ W', Kept wz1 W' → W'.cell? ⟨wr.heap.size, 0, none⟩ = some (.int .i64 ml.uid) := fun W' hk => (OM.out.kept hk).cell? 0
                          have CM1 : ∀ W', Kept wz1 W' → W'.cell? ⟨wr.heap.size, 1, none⟩ = some (.int .i64 ml.flags) := fun W' hk => (OM.out.kept hk).cell? 1
                          have CM2 : ∀ W', Kept wz1 W' → W'.cell? ⟨wr.heap.size, 2, none⟩ = some (.int .i64 ml.obj) := fun W' hk => (OM.out.kept hk).cell? 2
                          have CM3 : ∀ W', Kept wz1 W' → W'.cell? ⟨wr.heap.size, 3, none⟩ = some (.int .i64 ml.size) := fun W' hk => (OM.out.kept hk).cell? 3
                          have CP : ∀ W', Kept wz1 W' → W'.cell? ⟨mb, mo + (i - 1) * 4, none⟩ = some (.int .i64 pu) := fun W' hk => (hk.cell (p := ⟨mb, mo + (i - 1) * 4, none⟩) (show mb < _ by have := OM.out.lt; omega)).trans gpz
                          refine wp_region_Z (S := fun W' => Kept wz1 W') (Z := []) (by kernel_rfl) ((Kept.refl _).drew) (fun hHeld => ?_)
                          have kr := (Kept.refl wz1).drew
                          replace OX := Lib.hid (OX.out.kept kr)
                          replace OB := Lib.hid (OB.out.kept kr)
                          replace OM := Lib.hid (OM.out.kept kr)
                          replace K := K.trans kr
                          generalize wz1.drew = wz2 at *
                          refine wpAnyZ_take (i := 0) (oi := { dst := some 134, op := Op.load 73 (Operand.tmp 8), type := 73, pos := "ref.go:56", after := #[], guard := none }) (v := ?_) rfl (by kernel_rfl) (fun _ _ _ h => h) (Or.inl ⟨by rfl, ?_⟩) (by assumption) ?_
                          rotate_left
                          · (intro wz hSw; (try dsimp only at hSw); go_simp; (try with_reducible rfl))
                          (try simp only [Act.put, List.setIfInBounds_toArray, List.set_cons_zero, List.set_cons_succ])
                          refine wpAnyZ_ready (rs := [1]) (by kernel_rfl) (by simp) ?_
                          refine AllReadyZ.cons (o := { dst := some 135, op := Op.call { callee := Callee.value (Operand.func 42), args := #[Operand.tmp 134], argTypes := #[73] }, type := 4, pos := "ref.go:56", after := #[{ on := 0, ground := Ground.data }], guard := none }) rfl (fun KK hKK => ?_) AllReadyZ.nil
                          go_simp
                          refine (rmail_any ml wz2).mono ?_
                          rintro e wz3 ⟨rfl, hk⟩
                          clear hHeld
                          replace OX := Lib.hid (OX.out.kept hk)
                          replace OB := Lib.hid (OB.out.kept hk)
                          replace OM := Lib.hid (OM.out.kept hk)
                          replace K := K.trans hk
                          replace kr := kr.trans hk
                          rw [HRM.out]
                          clear hk
                          go_wp2_with fail
                          refine hKK.out _ _ ?_ (fun hHeld => ?_)
                          · exact kr
                          clear hKK KK
                          (try simp only [Act.put, List.setIfInBounds_toArray, List.set_cons_zero, List.set_cons_succ])
                          refine wpAnyZ_take (i := 2) (oi := { dst := some 136, op := Op.unOp UnOp.not 4 (Operand.tmp 135), type := 4, pos := "ref.go:56", after := #[{ on := 1, ground := Ground.data }], guard := none }) (v := ?_) rfl (by kernel_rfl) (fun _ _ _ h => h) (Or.inl ⟨by rfl, ?_⟩) (by assumption) ?_
                          rotate_left
                          · (intro wz hSw; (try dsimp only at hSw); go_simp; (try with_reducible rfl))
                          (try simp only [Act.put, List.setIfInBounds_toArray, List.set_cons_zero, List.set_cons_succ])
                          refine wpAnyZ_take (i := 3) (oi := { dst := some 137, op := Op.move (Operand.tmp 136), type := 4, pos := "ref.go:56", after := #[{ on := 2, ground := Ground.data }, { on := 1, ground := Ground.chain }], guard := none }) (v := ?_) rfl (by kernel_rfl) (fun _ _ _ h => h) (Or.inl ⟨by rfl, ?_⟩) (by assumption) ?_
                          rotate_left
                          · (intro wz hSw; (try dsimp only at hSw); go_simp; (try with_reducible rfl))
                          (try simp only [Act.put, List.setIfInBounds_toArray, List.set_cons_zero, List.set_cons_succ])
                          refine wpAnyZ_take (i := 4) (oi := { dst := some 138, op := Op.fieldAddr 73 (Operand.tmp 8) 0, type := 0, pos := "ref.go:56", after := #[{ on := 3, ground := Ground.guard }], guard := some (3, false) }) (v := ?_) rfl (by kernel_rfl) (fun _ _ _ h => h) (Or.inl ⟨by rfl, ?_⟩) (by assumption) ?_
                          rotate_left
                          · (intro wz hSw; (try dsimp only at hSw); go_simp; (try with_reducible rfl))
                          (try simp only [Act.put, List.setIfInBounds_toArray, List.set_cons_zero, List.set_cons_succ])
                          refine wpAnyZ_take (i := 5) (oi := { dst := some 139, op := Op.load 3 (Operand.tmp 138), type := 3, pos := "ref.go:56", after := #[{ on := 4, ground := Ground.data }, { on := 3, ground := Ground.guard }], guard := some (3, false) }) (v := ?_) rfl (by kernel_rfl) (fun _ _ _ h => h) (Or.inl ⟨by rfl, ?_⟩) (by assumption) ?_
                          rotate_left
                          · (intro wz hSw; (try dsimp only at hSw); go_simp; (try with_reducible rfl))
                          (try simp only [Act.put, List.setIfInBounds_toArray, List.set_cons_zero, List.set_cons_succ])
                          refine wpAnyZ_take (i := 6) (oi := { dst := some 140, op := Op.fieldAddr 43 (Operand.tmp 6) 2, type := 0, pos := "ref.go:56", after := #[{ on := 3, ground := Ground.guard }], guard := some (3, false) }) (v := ?_) rfl (by kernel_rfl) (fun _ _ _ h => h) (Or.inl ⟨by rfl, ?_⟩) (by assumption) ?_
                          rotate_left
                          · (intro wz hSw; (try dsimp only at hSw); go_simp; (try with_reducible rfl))
                          (try simp only [Act.put, List.setIfInBounds_toArray, List.set_cons_zero, List.set_cons_succ])
                          refine wpAnyZ_take (i := 7) (oi := { dst := some 141, op := Op.load 3 (Operand.tmp 140), type := 3, pos := "ref.go:56", after := #[{ on := 6, ground := Ground.data }, { on := 3, ground := Ground.guard }], guard := some (3, false) }) (v := ?_) rfl (by kernel_rfl) (fun _ _ _ h => h) (Or.inl ⟨by rfl, ?_⟩) (by assumption) ?_
                          rotate_left
                          · (intro wz hSw; (try dsimp only at hSw); go_simp; (try with_reducible rfl))
                          (try simp only [Act.put, List.setIfInBounds_toArray, List.set_cons_zero, List.set_cons_succ])
                          refine wpAnyZ_take (i := 8) (oi := { dst := some 142, op := Op.binOp BinOp.geq 3 (Operand.tmp 139) (Operand.tmp 141) 3, type := 4, pos := "ref.go:56", after := #[{ on := 5, ground := Ground.data }, { on := 7, ground := Ground.data }, { on := 3, ground := Ground.guard }], guard := some (3, false) }) (v := ?_) rfl (by kernel_rfl) (fun _ _ _ h => h) (Or.inl ⟨by rfl, ?_⟩) (by assumption) ?_
                          rotate_left
                          · (intro wz hSw; (try dsimp only at hSw); go_simp; (try with_reducible rfl))
                          (try simp only [Act.put, List.setIfInBounds_toArray, List.set_cons_zero, List.set_cons_succ])
                          refine wpAnyZ_take (i := 9) (oi := { dst := some 143, op := Op.pick (Operand.tmp 137) (Operand.const (Value.bool true)) (Operand.tmp 142), type := 4, pos := "ref.go:56", after := #[{ on := 3, ground := Ground.data }, { on := 8, ground := Ground.data }], guard := none }) (v := ?_) rfl (by kernel_rfl) (fun _ _ _ h => h) (Or.inl ⟨by rfl, ?_⟩) (by assumption) ?_
                          rotate_left
                          · (intro wz hSw; (try dsimp only at hSw); go_simp; (try with_reducible rfl))
                          (try simp only [Act.put, List.setIfInBounds_toArray, List.set_cons_zero, List.set_cons_succ])
                          refine wpAnyZ_take (i := 10) (oi := { dst := some 144, op := Op.move (Operand.tmp 143), type := 4, pos := "ref.go:56", after := #[{ on := 9, ground := Ground.data }, { on := 3, ground := Ground.chain }], guard := none }) (v := ?_) rfl (by kernel_rfl) (fun _ _ _ h => h) (Or.inl ⟨by rfl, ?_⟩) (by assumption) ?_
                          rotate_left
                          · (intro wz hSw; (try dsimp only at hSw); go_simp; (try with_reducible rfl))
                          (try simp only [Act.put, List.setIfInBounds_toArray, List.set_cons_zero, List.set_cons_succ])
                          refine wpAnyZ_take (i := 11) (oi := { dst := some 145, op := Op.move (Operand.tmp 7), type := 3, pos := "ref.go:56", after := #[{ on := 10, ground := Ground.guard }], guard := some (10, false) }) (v := ?_) rfl (by kernel_rfl) (fun _ _ _ h => h) (Or.inl ⟨by rfl, ?_⟩) (by assumption) ?_
                          rotate_left
                          · (intro wz hSw; (try dsimp only at hSw); go_simp; (try with_reducible rfl))
                          (try simp only [Act.put, List.setIfInBounds_toArray, List.set_cons_zero, List.set_cons_succ])
                          refine wpAnyZ_take (i := 12) (oi := { dst := some 146, op := Op.binOp BinOp.gtr 3 (Operand.tmp 145) (Operand.const (Value.int IntKind.i64 0)) 3, type := 4, pos := "ref.go:56", after := #[{ on := 11, ground := Ground.data }, { on := 10, ground := Ground.guard }], guard := some (10, false) }) (v := ?_) rfl (by kernel_rfl) (fun _ _ _ h => h) (Or.inl ⟨by rfl, ?_⟩) (by assumption) ?_
                          rotate_left
                          · (intro wz hSw; (try dsimp only at hSw); go_simp; (try with_reducible rfl))
                          (try simp only [Act.put, List.setIfInBounds_toArray, List.set_cons_zero, List.set_cons_succ])
                          refine wpAnyZ_take (i := 13) (oi := { dst := some 147, op := Op.move (Operand.tmp 146), type := 4, pos := "ref.go:56", after := #[{ on := 12, ground := Ground.data }, { on := 10, ground := Ground.chain }, { on := 10, ground := Ground.guard }], guard := some (10, false) }) (v := ?_) rfl (by kernel_rfl) (fun _ _ _ h => h) (Or.inl ⟨by rfl, ?_⟩) (by assumption) ?_
                          rotate_left
                          · (intro wz hSw; (try dsimp only at hSw); go_simp; (try with_reducible rfl))
                          (try simp only [Act.put, List.setIfInBounds_toArray, List.set_cons_zero, List.set_cons_succ])
                          refine wpAnyZ_take (i := 14) (oi := { dst := some 148, op := Op.fieldAddr 43 (Operand.tmp 6) 3, type := 0, pos := "ref.go:56", after := #[{ on := 13, ground := Ground.guard }], guard := some (13, true) }) (v := ?_) rfl (by kernel_rfl) (fun _ _ _ h => h) (Or.inl ⟨by rfl, ?_⟩) (by assumption) ?_
                          rotate_left
                          · (intro wz hSw; (try dsimp only at hSw); go_simp; (try with_reducible rfl))
                          (try simp only [Act.put, List.setIfInBounds_toArray, List.set_cons_zero, List.set_cons_succ])
                          refine wpAnyZ_take (i := 15) (oi := { dst := some 149, op := Op.load 41 (Operand.tmp 148), type := 41, pos := "ref.go:56", after := #[{ on := 14, ground := Ground.data }, { on := 13, ground := Ground.guard }], guard := some (13, true) }) (v := ?_) rfl (by kernel_rfl) (fun _ _ _ h => h) (Or.inl ⟨by rfl, ?_⟩) (by assumption) ?_
                          rotate_left
                          · (intro wz hSw; (try dsimp only at hSw); go_simp; (try with_reducible rfl))
                          (try simp only [Act.put, List.setIfInBounds_toArray, List.set_cons_zero, List.set_cons_succ])
                          refine wpAnyZ_take (i := 16) (oi := { dst := some 150, op := Op.move (Operand.tmp 7), type := 3, pos := "ref.go:56", after := #[{ on := 13, ground := Ground.guard }], guard := some (13, true) }) (v := ?_) rfl (by kernel_rfl) (fun _ _ _ h => h) (Or.inl ⟨by rfl, ?_⟩) (by assumption) ?_
                          rotate_left
                          · (intro wz hSw; (try dsimp only at hSw); go_simp; (try with_reducible rfl))
                          (try simp only [Act.put, List.setIfInBounds_toArray, List.set_cons_zero, List.set_cons_succ])
                          refine wpAnyZ_take (i := 17) (oi := { dst := some 151, op := Op.binOp BinOp.sub 3 (Operand.tmp 150) (Operand.const (Value.int IntKind.i64 1)) 3, type := 3, pos := "ref.go:56", after := #[{ on := 16, ground := Ground.data }, { on := 13, ground := Ground.guard }], guard := some (13, true) }) (v := ?_) rfl (by kernel_rfl) (fun _ _ _ h => h) (Or.inl ⟨by rfl, ?_⟩) (by assumption) ?_
                          rotate_left
                          · (intro wz hSw; (try dsimp only at hSw); go_simp; (try with_reducible rfl))
                          (try simp only [Act.put, List.setIfInBounds_toArray, List.set_cons_zero, List.set_cons_succ])
                          refine wpAnyZ_take (i := 18) (oi := { dst := some 152, op := Op.indexAddr 41 (Operand.tmp 149) (Operand.tmp 151), type := 0, pos := "ref.go:56", after := #[{ on := 15, ground := Ground.data }, { on := 17, ground := Ground.data }, { on := 13, ground := Ground.guard }], guard := some (13, true) }) (v := ?_) rfl (by kernel_rfl) (fun _ _ _ h => h) (Or.inl ⟨by rfl, ?_⟩) (by assumption) ?_
                          rotate_left
                          · (intro wz hSw; (try dsimp only at hSw); go_simp; (try with_reducible rfl))
                          (try simp only [Act.put, List.setIfInBounds_toArray, List.set_cons_zero, List.set_cons_succ])
                          refine wpAnyZ_take (i := 19) (oi := { dst := some 153, op := Op.fieldAddr 73 (Operand.tmp 152) 0, type := 0, pos := "ref.go:56", after := #[{ on := 18, ground := Ground.data }, { on := 13, ground := Ground.guard }], guard := some (13, true) }) (v := ?_) rfl (by kernel_rfl) (fun _ _ _ h => h) (Or.inl ⟨by rfl, ?_⟩) (by assumption) ?_
                          rotate_left
                          · (intro wz hSw; (try dsimp only at hSw); go_simp; (try with_reducible rfl))
                          (try simp only [Act.put, List.setIfInBounds_toArray, List.set_cons_zero, List.set_cons_succ])
                          refine wpAnyZ_take (i := 20) (oi := { dst := some 154, op := Op.load 3 (Operand.tmp 153), type := 3, pos := "ref.go:56", after := #[{ on := 19, ground := Ground.data }, { on := 13, ground := Ground.guard }], guard := some (13, true) }) (v := ?_) rfl (by kernel_rfl) (fun _ _ _ h => h) (Or.inl ⟨by rfl, ?_⟩) (by assumption) ?_
                          rotate_left
                          · (intro wz hSw; (try dsimp only at hSw); go_simp; (try with_reducible rfl))
                          (try simp only [Act.put, List.setIfInBounds_toArray, List.set_cons_zero, List.set_cons_succ])
                          refine wpAnyZ_take (i := 21) (oi := { dst := some 155, op := Op.fieldAddr 73 (Operand.tmp 8) 0, type := 0, pos := "ref.go:56", after := #[{ on := 13, ground := Ground.guard }], guard := some (13, true) }) (v := ?_) rfl (by kernel_rfl) (fun _ _ _ h => h) (Or.inl ⟨by rfl, ?_⟩) (by assumption) ?_
                          rotate_left
                          · (intro wz hSw; (try dsimp only at hSw); go_simp; (try with_reducible rfl))
                          (try simp only [Act.put, List.setIfInBounds_toArray, List.set_cons_zero, List.set_cons_succ])
                          refine wpAnyZ_take (i := 22) (oi := { dst := some 156, op := Op.load 3 (Operand.tmp 155), type := 3, pos := "ref.go:56", after := #[{ on := 21, ground := Ground.data }, { on := 13, ground := Ground.guard }], guard := some (13, true) }) (v := ?_) rfl (by kernel_rfl) (fun _ _ _ h => h) (Or.inl ⟨by rfl, ?_⟩) (by assumption) ?_
                          rotate_left
                          · (intro wz hSw; (try dsimp only at hSw); go_simp; (try with_reducible rfl))
                          (try simp only [Act.put, List.setIfInBounds_toArray, List.set_cons_zero, List.set_cons_succ])
                          refine wpAnyZ_take (i := 23) (oi := { dst := some 157, op := Op.binOp BinOp.geq 3 (Operand.tmp 154) (Operand.tmp 156) 3, type := 4, pos := "ref.go:56", after := #[{ on := 20, ground := Ground.data }, { on := 22, ground := Ground.data }, { on := 13, ground := Ground.guard }], guard := some (13, true) }) (v := ?_) rfl (by kernel_rfl) (fun _ _ _ h => h) (Or.inl ⟨by rfl, ?_⟩) (by assumption) ?_
                          rotate_left
                          · (intro wz hSw; (try dsimp only at hSw); go_simp; (try with_reducible rfl))
                          (try simp only [Act.put, List.setIfInBounds_toArray, List.set_cons_zero, List.set_cons_succ])
                          refine wpAnyZ_take (i := 24) (oi := { dst := some 158, op := Op.pick (Operand.tmp 147) (Operand.tmp 157) (Operand.const (Value.bool false)), type := 4, pos := "ref.go:56", after := #[{ on := 13, ground := Ground.data }, { on := 23, ground := Ground.data }, { on := 10, ground := Ground.guard }], guard := some (10, false) }) (v := ?_) rfl (by kernel_rfl) (fun _ _ _ h => h) (Or.inl ⟨by rfl, ?_⟩) (by assumption) ?_
                          rotate_left
                          · (intro wz hSw; (try dsimp only at hSw); go_simp; (try with_reducible rfl))
                          (try simp only [Act.put, List.setIfInBounds_toArray, List.set_cons_zero, List.set_cons_succ])
                          refine wpAnyZ_take (i := 25) (oi := { dst := some 159, op := Op.pick (Operand.tmp 144) (Operand.const (Value.bool true)) (Operand.tmp 158), type := 4, pos := "ref.go:56", after := #[{ on := 10, ground := Ground.data }, { on := 24, ground := Ground.data }], guard := none }) (v := ?_) rfl (by kernel_rfl) (fun _ _ _ h => h) (Or.inl ⟨by rfl, ?_⟩) (by assumption) ?_
                          rotate_left
                          · (intro wz hSw; (try dsimp only at hSw); go_simp; (try with_reducible rfl))
                          (try simp only [Act.put, List.setIfInBounds_toArray, List.set_cons_zero, List.set_cons_succ])
                          refine wpAnyZ_done (by kernel_rfl) ?_ _
                          clear CX0 CX1 CX2 CB0 CB1 CB2 CB3 CM0 CM1 CM2 CM3 CP hHeld kr
                          go_wp2
                          go_roundw
                          case rel =>
                            have HREL : ∀ l, l < i + 1 → mailC B.mails B.next l = true := fun l hl => by
                              by_cases e : l = i
                              · subst e; rw [HMC.out, HRM.out]; simp; exact ⟨hu, by omega⟩
                              · exact HI.out l (by omega)
                            first
                              | exact ⟨i + 1, by omega, by go_num, by go_num, HREL, OB.out, OX.out, K⟩
                              | ((repeat apply Exists.intro); exact ⟨⟨i + 1, by omega, by go_num, by go_num, HREL, OB.out, OX.out, K⟩, rfl⟩)
                          case measure => simp [intOf]; omega
                    · have hu' : B.next ≤ ml.uid := by omega
                      have d1 : decide (B.next ≤ ml.uid) = true := decide_eq_true hu'
                      replace OX := Lib.hid (OX.out.alloc (.cells #[.int .i64 ml.uid, .int .i64 ml.flags, .int .i64 ml.obj, .int .i64 ml.size] 73))
                      replace OB := Lib.hid (OB.out.alloc (.cells #[.int .i64 ml.uid, .int .i64 ml.flags, .int .i64 ml.obj, .int .i64 ml.size] 73))
                      have OM := Lib.hid (Own.new wr 73 [.int .i64 ml.uid, .int .i64 ml.flags, .int .i64 ml.obj, .int .i64 ml.size])
                      replace K := K.alloc (.cells #[.int .i64 ml.uid, .int .i64 ml.flags, .int .i64 ml.obj, .int .i64 ml.size] 73)
                      generalize (wr.alloc (.cells #[.int .i64 ml.uid, .int .i64 ml.flags, .int .i64 ml.obj, .int .i64 ml.size] 73)) = wz1 at *
                      have CX0 : ∀ W', Kept wz1 W' → W'.cell? ⟨w.heap.size, 0, none⟩ = some (.slice (some ⟨b, o, none⟩) n c) := fun W' hk => (OX.out.kept hk).cell? 0
                      have CX1 : ∀ W', Kept wz1 W' → W'.cell? ⟨w.heap.size, 1, none⟩ = some (.slice A' j c') := fun W' hk => (OX.out.kept hk).cell? 1
                      have CX2 : ∀ W', Kept wz1 W' → W'.cell? ⟨w.heap.size, 2, none⟩ = some (.int .i64 gv) := fun W' hk => (OX.out.kept hk).cell? 2
                      have CB0 : ∀ W', Kept wz1 W' → W'.cell? ⟨gB, 0, none⟩ = some (.string B.name) := fun W' hk => (OB.out.kept hk).cell? 0
                      have CB1 : ∀ W', Kept wz1 W' → W'.cell? ⟨gB, 1, none⟩ = some (.int .i64 B.val) := fun W' hk => (OB.out.kept hk).cell? 1
                      have CB2 : ∀ W', Kept wz1 W' → W'.cell? ⟨gB, 2, none⟩ = some (.int .i64 B.next) := fun W' hk => (OB.out.kept hk).cell? 2
                      have CB3 : ∀ W', Kept wz1 W' → W'.cell? ⟨gB, 3, none⟩ = some (.slice (some ⟨mb, mo, none⟩) B.mails.length mc) := fun W' hk => (OB.out.kept hk).cell? 3
                      have CM0 : ∀ W', Kept wz1 W' → W'.cell? ⟨wr.heap.size, 0, none⟩ = some (.int .i64 ml.uid) := fun W' hk => (OM.out.kept hk).cell? 0
                      have CM1 : ∀ W', Kept wz1 W' → W'.cell? ⟨wr.heap.size, 1, none⟩ = some (.int .i64 ml.flags) := fun W' hk => (OM.out.kept hk).cell? 1
                      have CM2 : ∀ W', Kept wz1 W' → W'.cell? ⟨wr.heap.size, 2, none⟩ = some (.int .i64 ml.obj) := fun W' hk => (OM.out.kept hk).cell? 2
                      have CM3 : ∀ W', Kept wz1 W' → W'.cell? ⟨wr.heap.size, 3, none⟩ = some (.int .i64 ml.size) := fun W' hk => (OM.out.kept hk).cell? 3
                      refine wp_region_Z (S := fun W' => Kept wz1 W') (Z := []) (by kernel_rfl) ((Kept.refl _).drew) (fun hHeld => ?_)
                      have kr := (Kept.refl wz1).drew
                      replace OX := Lib.hid (OX.out.kept kr)
                      replace OB := Lib.hid (OB.out.kept kr)
                      replace OM := Lib.hid (OM.out.kept kr)
                      replace K := K.trans kr
                      generalize wz1.drew = wz2 at *
                      refine wpAnyZ_take (i := 0) (oi := { dst := some 134, op := Op.load 73 (Operand.tmp 8), type := 73, pos := "ref.go:56", after := #[], guard := none }) (v := ?_) rfl (by kernel_rfl) (fun _ _ _ h => h) (Or.inl ⟨by rfl, ?_⟩) (by assumption) ?_
                      rotate_left
                      · (intro wz hSw; (try dsimp only at hSw); go_simp; (try with_reducible rfl))
                      (try simp only [Act.put, List.setIfInBounds_toArray, List.set_cons_zero, List.set_cons_succ])
                      refine wpAnyZ_ready (rs := [1]) (by kernel_rfl) (by simp) ?_
                      refine AllReadyZ.cons (o := { dst := some 135, op := Op.call { callee := Callee.value (Operand.func 42), args := #[Operand.tmp 134], argTypes := #[73] }, type := 4, pos := "ref.go:56", after := #[{ on := 0, ground := Ground.data }], guard := none }) rfl (fun KK hKK => ?_) AllReadyZ.nil
                      go_simp
                      refine (rmail_any ml wz2).mono ?_
                      rintro e wz3 ⟨rfl, hk⟩
                      clear hHeld
                      replace OX := Lib.hid (OX.out.kept hk)
                      replace OB := Lib.hid (OB.out.kept hk)
                      replace OM := Lib.hid (OM.out.kept hk)
                      replace K := K.trans hk
                      replace kr := kr.trans hk
                      rw [HRM.out]
                      clear hk
                      go_wp2_with fail
                      refine hKK.out _ _ ?_ (fun hHeld => ?_)
                      · exact kr
                      clear hKK KK
                      (try simp only [Act.put, List.setIfInBounds_toArray, List.set_cons_zero, List.set_cons_succ])
                      refine wpAnyZ_take (i := 2) (oi := { dst := some 136, op := Op.unOp UnOp.not 4 (Operand.tmp 135), type := 4, pos := "ref.go:56", after := #[{ on := 1, ground := Ground.data }], guard := none }) (v := ?_) rfl (by kernel_rfl) (fun _ _ _ h => h) (Or.inl ⟨by rfl, ?_⟩) (by assumption) ?_
                      rotate_left
                      · (intro wz hSw; (try dsimp only at hSw); go_simp; (try with_reducible rfl))
                      (try simp only [Act.put, List.setIfInBounds_toArray, List.set_cons_zero, List.set_cons_succ])
                      refine wpAnyZ_take (i := 3) (oi := { dst := some 137, op := Op.move (Operand.tmp 136), type := 4, pos := "ref.go:56", after := #[{ on := 2, ground := Ground.data }, { on := 1, ground := Ground.chain }], guard := none }) (v := ?_) rfl (by kernel_rfl) (fun _ _ _ h => h) (Or.inl ⟨by rfl, ?_⟩) (by assumption) ?_
                      rotate_left
                      · (intro wz hSw; (try dsimp only at hSw); go_simp; (try with_reducible rfl))
                      (try simp only [Act.put, List.setIfInBounds_toArray, List.set_cons_zero, List.set_cons_succ])
                      refine wpAnyZ_take (i := 4) (oi := { dst := some 138, op := Op.fieldAddr 73 (Operand.tmp 8) 0, type := 0, pos := "ref.go:56", after := #[{ on := 3, ground := Ground.guard }], guard := some (3, false) }) (v := ?_) rfl (by kernel_rfl) (fun _ _ _ h => h) (Or.inl ⟨by rfl, ?_⟩) (by assumption) ?_
                      rotate_left
                      · (intro wz hSw; (try dsimp only at hSw); go_simp; (try with_reducible rfl))
                      (try simp only [Act.put, List.setIfInBounds_toArray, List.set_cons_zero, List.set_cons_succ])
                      refine wpAnyZ_take (i := 5) (oi := { dst := some 139, op := Op.load 3 (Operand.tmp 138), type := 3, pos := "ref.go:56", after := #[{ on := 4, ground := Ground.data }, { on := 3, ground := Ground.guard }], guard := some (3, false) }) (v := ?_) rfl (by kernel_rfl) (fun _ _ _ h => h) (Or.inl ⟨by rfl, ?_⟩) (by assumption) ?_
                      rotate_left
                      · (intro wz hSw; (try dsimp only at hSw); go_simp; (try with_reducible rfl))
                      (try simp only [Act.put, List.setIfInBounds_toArray, List.set_cons_zero, List.set_cons_succ])
                      refine wpAnyZ_take (i := 6) (oi := { dst := some 140, op := Op.fieldAddr 43 (Operand.tmp 6) 2, type := 0, pos := "ref.go:56", after := #[{ on := 3, ground := Ground.guard }], guard := some (3, false) }) (v := ?_) rfl (by kernel_rfl) (fun _ _ _ h => h) (Or.inl ⟨by rfl, ?_⟩) (by assumption) ?_
                      rotate_left
                      · (intro wz hSw; (try dsimp only at hSw); go_simp; (try with_reducible rfl))
                      (try simp only [Act.put, List.setIfInBounds_toArray, List.set_cons_zero, List.set_cons_succ])
                      refine wpAnyZ_take (i := 7) (oi := { dst := some 141, op := Op.load 3 (Operand.tmp 140), type := 3, pos := "ref.go:56", after := #[{ on := 6, ground := Ground.data }, { on := 3, ground := Ground.guard }], guard := some (3, false) }) (v := ?_) rfl (by kernel_rfl) (fun _ _ _ h => h) (Or.inl ⟨by rfl, ?_⟩) (by assumption) ?_
                      rotate_left
                      · (intro wz hSw; (try dsimp only at hSw); go_simp; (try with_reducible rfl))
                      (try simp only [Act.put, List.setIfInBounds_toArray, List.set_cons_zero, List.set_cons_succ])
                      refine wpAnyZ_take (i := 8) (oi := { dst := some 142, op := Op.binOp BinOp.geq 3 (Operand.tmp 139) (Operand.tmp 141) 3, type := 4, pos := "ref.go:56", after := #[{ on := 5, ground := Ground.data }, { on := 7, ground := Ground.data }, { on := 3, ground := Ground.guard }], guard := some (3, false) }) (v := ?_) rfl (by kernel_rfl) (fun _ _ _ h => h) (Or.inl ⟨by rfl, ?_⟩) (by assumption) ?_
                      rotate_left
                      · (intro wz hSw; (try dsimp only at hSw); go_simp; (try with_reducible rfl))
                      (try simp only [Act.put, List.setIfInBounds_toArray, List.set_cons_zero, List.set_cons_succ])
                      refine wpAnyZ_take (i := 9) (oi := { dst := some 143, op := Op.pick (Operand.tmp 137) (Operand.const (Value.bool true)) (Operand.tmp 142), type := 4, pos := "ref.go:56", after := #[{ on := 3, ground := Ground.data }, { on := 8, ground := Ground.data }], guard := none }) (v := ?_) rfl (by kernel_rfl) (fun _ _ _ h => h) (Or.inl ⟨by rfl, ?_⟩) (by assumption) ?_
                      rotate_left
                      · (intro wz hSw; (try dsimp only at hSw); go_simp; (try with_reducible rfl))
                      (try simp only [Act.put, List.setIfInBounds_toArray, List.set_cons_zero, List.set_cons_succ])
                      refine wpAnyZ_take (i := 10) (oi := { dst := some 144, op := Op.move (Operand.tmp 143), type := 4, pos := "ref.go:56", after := #[{ on := 9, ground := Ground.data }, { on := 3, ground := Ground.chain }], guard := none }) (v := ?_) rfl (by kernel_rfl) (fun _ _ _ h => h) (Or.inl ⟨by rfl, ?_⟩) (by assumption) ?_
                      rotate_left
                      · (intro wz hSw; (try dsimp only at hSw); go_simp; (try with_reducible rfl))
                      (try simp only [Act.put, List.setIfInBounds_toArray, List.set_cons_zero, List.set_cons_succ])
                      refine wpAnyZ_take (i := 11) (oi := { dst := some 145, op := Op.move (Operand.tmp 7), type := 3, pos := "ref.go:56", after := #[{ on := 10, ground := Ground.guard }], guard := some (10, false) }) (v := undef) rfl (by kernel_rfl) (fun _ _ _ h => h) (Or.inr ⟨by rfl, rfl⟩) (by assumption) ?_
                      (try simp only [Act.put, List.setIfInBounds_toArray, List.set_cons_zero, List.set_cons_succ])
                      refine wpAnyZ_take (i := 12) (oi := { dst := some 146, op := Op.binOp BinOp.gtr 3 (Operand.tmp 145) (Operand.const (Value.int IntKind.i64 0)) 3, type := 4, pos := "ref.go:56", after := #[{ on := 11, ground := Ground.data }, { on := 10, ground := Ground.guard }], guard := some (10, false) }) (v := undef) rfl (by kernel_rfl) (fun _ _ _ h => h) (Or.inr ⟨by rfl, rfl⟩) (by assumption) ?_
                      (try simp only [Act.put, List.setIfInBounds_toArray, List.set_cons_zero, List.set_cons_succ])
                      refine wpAnyZ_take (i := 13) (oi := { dst := some 147, op := Op.move (Operand.tmp 146), type := 4, pos := "ref.go:56", after := #[{ on := 12, ground := Ground.data }, { on := 10, ground := Ground.chain }, { on := 10, ground := Ground.guard }], guard := some (10, false) }) (v := undef) rfl (by kernel_rfl) (fun _ _ _ h => h) (Or.inr ⟨by rfl, rfl⟩) (by assumption) ?_
                      (try simp only [Act.put, List.setIfInBounds_toArray, List.set_cons_zero, List.set_cons_succ])
                      refine wpAnyZ_take (i := 14) (oi := { dst := some 148, op := Op.fieldAddr 43 (Operand.tmp 6) 3, type := 0, pos := "ref.go:56", after := #[{ on := 13, ground := Ground.guard }], guard := some (13, true) }) (v := undef) rfl (by kernel_rfl) (fun _ _ _ h => h) (Or.inr ⟨by rfl, rfl⟩) (by assumption) ?_
                      (try simp only [Act.put, List.setIfInBounds_toArray, List.set_cons_zero, List.set_cons_succ])
                      refine wpAnyZ_take (i := 15) (oi := { dst := some 149, op := Op.load 41 (Operand.tmp 148), type := 41, pos := "ref.go:56", after := #[{ on := 14, ground := Ground.data }, { on := 13, ground := Ground.guard }], guard := some (13, true) }) (v := undef) rfl (by kernel_rfl) (fun _ _ _ h => h) (Or.inr ⟨by rfl, rfl⟩) (by assumption) ?_
                      (try simp only [Act.put, List.setIfInBounds_toArray, List.set_cons_zero, List.set_cons_succ])
                      refine wpAnyZ_take (i := 16) (oi := { dst := some 150, op := Op.move (Operand.tmp 7), type := 3, pos := "ref.go:56", after := #[{ on := 13, ground := Ground.guard }], guard := some (13, true) }) (v := undef) rfl (by kernel_rfl) (fun _ _ _ h => h) (Or.inr ⟨by rfl, rfl⟩) (by assumption) ?_
                      (try simp only [Act.put, List.setIfInBounds_toArray, List.set_cons_zero, List.set_cons_succ])
                      refine wpAnyZ_take (i := 17) (oi := { dst := some 151, op := Op.binOp BinOp.sub 3 (Operand.tmp 150) (Operand.const (Value.int IntKind.i64 1)) 3, type := 3, pos := "ref.go:56", after := #[{ on := 16, ground := Ground.data }, { on := 13, ground := Ground.guard }], guard := some (13, true) }) (v := undef) rfl (by kernel_rfl) (fun _ _ _ h => h) (Or.inr ⟨by rfl, rfl⟩) (by assumption) ?_
                      (try simp only [Act.put, List.setIfInBounds_toArray, List.set_cons_zero, List.set_cons_succ])
                      refine wpAnyZ_take (i := 18) (oi := { dst := some 152, op := Op.indexAddr 41 (Operand.tmp 149) (Operand.tmp 151), type := 0, pos := "ref.go:56", after := #[{ on := 15, ground := Ground.data }, { on := 17, ground := Ground.data }, { on := 13, ground := Ground.guard }], guard := some (13, true) }) (v := undef) rfl (by kernel_rfl) (fun _ _ _ h => h) (Or.inr ⟨by rfl, rfl⟩) (by assumption) ?_
                      (try simp only [Act.put, List.setIfInBounds_toArray, List.set_cons_zero, List.set_cons_succ])
                      refine wpAnyZ_take (i := 19) (oi := { dst := some 153, op := Op.fieldAddr 73 (Operand.tmp 152) 0, type := 0, pos := "ref.go:56", after := #[{ on := 18, ground := Ground.data }, { on := 13, ground := Ground.guard }], guard := some (13, true) }) (v := undef) rfl (by kernel_rfl) (fun _ _ _ h => h) (Or.inr ⟨by rfl, rfl⟩) (by assumption) ?_
                      (try simp only [Act.put, List.setIfInBounds_toArray, List.set_cons_zero, List.set_cons_succ])
                      refine wpAnyZ_take (i := 20) (oi := { dst := some 154, op := Op.load 3 (Operand.tmp 153), type := 3, pos := "ref.go:56", after := #[{ on := 19, ground := Ground.data }, { on := 13, ground := Ground.guard }], guard := some (13, true) }) (v := undef) rfl (by kernel_rfl) (fun _ _ _ h => h) (Or.inr ⟨by rfl, rfl⟩) (by assumption) ?_
                      (try simp only [Act.put, List.setIfInBounds_toArray, List.set_cons_zero, List.set_cons_succ])
                      refine wpAnyZ_take (i := 21) (oi := { dst := some 155, op := Op.fieldAddr 73 (Operand.tmp 8) 0, type := 0, pos := "ref.go:56", after := #[{ on := 13, ground := Ground.guard }], guard := some (13, true) }) (v := undef) rfl (by kernel_rfl) (fun _ _ _ h => h) (Or.inr ⟨by rfl, rfl⟩) (by assumption) ?_
                      (try simp only [Act.put, List.setIfInBounds_toArray, List.set_cons_zero, List.set_cons_succ])
                      refine wpAnyZ_take (i := 22) (oi := { dst := some 156, op := Op.load 3 (Operand.tmp 155), type := 3, pos := "ref.go:56", after := #[{ on := 21, ground := Ground.data }, { on := 13, ground := Ground.guard }], guard := some (13, true) }) (v := undef) rfl (by kernel_rfl) (fun _ _ _ h => h) (Or.inr ⟨by rfl, rfl⟩) (by assumption) ?_
                      (try simp only [Act.put, List.setIfInBounds_toArray, List.set_cons_zero, List.set_cons_succ])
                      refine wpAnyZ_take (i := 23) (oi := { dst := some 157, op := Op.binOp BinOp.geq 3 (Operand.tmp 154) (Operand.tmp 156) 3, type := 4, pos := "ref.go:56", after := #[{ on := 20, ground := Ground.data }, { on := 22, ground := Ground.data }, { on := 13, ground := Ground.guard }], guard := some (13, true) }) (v := undef) rfl (by kernel_rfl) (fun _ _ _ h => h) (Or.inr ⟨by rfl, rfl⟩) (by assumption) ?_
                      (try simp only [Act.put, List.setIfInBounds_toArray, List.set_cons_zero, List.set_cons_succ])
                      refine wpAnyZ_take (i := 24) (oi := { dst := some 158, op := Op.pick (Operand.tmp 147) (Operand.tmp 157) (Operand.const (Value.bool false)), type := 4, pos := "ref.go:56", after := #[{ on := 13, ground := Ground.data }, { on := 23, ground := Ground.data }, { on := 10, ground := Ground.guard }], guard := some (10, false) }) (v := undef) rfl (by kernel_rfl) (fun _ _ _ h => h) (Or.inr ⟨by rfl, rfl⟩) (by assumption) ?_
                      (try simp only [Act.put, List.setIfInBounds_toArray, List.set_cons_zero, List.set_cons_succ])
                      refine wpAnyZ_take (i := 25) (oi := { dst := some 159, op := Op.pick (Operand.tmp 144) (Operand.const (Value.bool true)) (Operand.tmp 158), type := 4, pos := "ref.go:56", after := #[{ on := 10, ground := Ground.data }, { on := 24, ground := Ground.data }], guard := none }) (v := ?_) rfl (by kernel_rfl) (fun _ _ _ h => h) (Or.inl ⟨by rfl, ?_⟩) (by assumption) ?_
                      rotate_left
                      · (intro wz hSw; (try dsimp only at hSw); go_simp; (try with_reducible rfl))
                      (try simp only [Act.put, List.setIfInBounds_toArray, List.set_cons_zero, List.set_cons_succ])
                      refine wpAnyZ_done (by kernel_rfl) ?_ _
                      clear CX0 CX1 CX2 CB0 CB1 CB2 CB3 CM0 CM1 CM2 CM3 hHeld kr
                      go_wp2
                      go_ret
                      exact ⟨ret_bool (HNO2.out (by rw [HMC.out, HRM.out]; simp; omega)), K⟩
                  · have HRM := Lib.hid hrm
                    clear hrm
                    replace OX := Lib.hid (OX.out.alloc (.cells #[.int .i64 ml.uid, .int .i64 ml.flags, .int .i64 ml.obj, .int .i64 ml.size] 73))
                    replace OB := Lib.hid (OB.out.alloc (.cells #[.int .i64 ml.uid, .int .i64 ml.flags, .int .i64 ml.obj, .int .i64 ml.size] 73))
                    have OM := Lib.hid (Own.new wr 73 [.int .i64 ml.uid, .int .i64 ml.flags, .int .i64 ml.obj, .int .i64 ml.size])
                    replace K := K.alloc (.cells #[.int .i64 ml.uid, .int .i64 ml.flags, .int .i64 ml.obj, .int .i64 ml.size] 73)
                    generalize (wr.alloc (.cells #[.int .i64 ml.uid, .int .i64 ml.flags, .int .i64 ml.obj, .int .i64 ml.size] 73)) = wz1 at *
                    have CX0 : ∀ W', Kept wz1 W' → W'.cell? ⟨w.heap.size, 0, none⟩ = some (.slice (some ⟨b, o, none⟩) n c) := fun W' hk => (OX.out.kept hk).cell? 0
                    have CX1 : ∀ W', Kept wz1 W' → W'.cell? ⟨w.heap.size, 1, none⟩ = some (.slice A' j c') := fun W' hk => (OX.out.kept hk).cell? 1
                    have CX2 : ∀ W', Kept wz1 W' → W'.cell? ⟨w.heap.size, 2, none⟩ = some (.int .i64 gv) := fun W' hk => (OX.out.kept hk).cell? 2
                    have CB0 : ∀ W', Kept wz1 W' → W'.cell? ⟨gB, 0, none⟩ = some (.string B.name) := fun W' hk => (OB.out.kept hk).cell? 0
                    have CB1 : ∀ W', Kept wz1 W' → W'.cell? ⟨gB, 1, none⟩ = some (.int .i64 B.val) := fun W' hk => (OB.out.kept hk).cell? 1
                    have CB2 : ∀ W', Kept wz1 W' → W'.cell? ⟨gB, 2, none⟩ = some (.int .i64 B.next) := fun W' hk => (OB.out.kept hk).cell? 2
                    have CB3 : ∀ W', Kept wz1 W' → W'.cell? ⟨gB, 3, none⟩ = some (.slice (some ⟨mb, mo, none⟩) B.mails.length mc) := fun W' hk => (OB.out.kept hk).cell? 3
                    have CM0 : ∀ W', Kept wz1 W' → W'.cell? ⟨wr.heap.size, 0, none⟩ = some (.int .i64 ml.uid) := fun W' hk => (OM.out.kept hk).cell? 0
                    have CM1 : ∀ W', Kept wz1 W' → W'.cell? ⟨wr.heap.size, 1, none⟩ = some (.int .i64 ml.flags) := fun W' hk => (OM.out.kept hk).cell? 1
                    have CM2 : ∀ W', Kept wz1 W' → W'.cell? ⟨wr.heap.size, 2, none⟩ = some (.int .i64 ml.obj) := fun W' hk => (OM.out.kept hk).cell? 2
                    have CM3 : ∀ W', Kept wz1 W' → W'.cell? ⟨wr.heap.size, 3, none⟩ = some (.int .i64 ml.size) := fun W' hk => (OM.out.kept hk).cell? 3
                    refine wp_region_Z (S := fun W' => Kept wz1 W') (Z := []) (by kernel_rfl) ((Kept.refl _).drew) (fun hHeld => ?_)
                    have kr := (Kept.refl wz1).drew
                    replace OX := Lib.hid (OX.out.kept kr)
                    replace OB := Lib.hid (OB.out.kept kr)
                    replace OM := Lib.hid (OM.out.kept kr)
                    replace K := K.trans kr
                    generalize wz1.drew = wz2 at *
                    refine wpAnyZ_take (i := 0) (oi := { dst := some 134, op := Op.load 73 (Operand.tmp 8), type := 73, pos := "ref.go:56", after := #[], guard := none }) (v := ?_) rfl (by kernel_rfl) (fun _ _ _ h => h) (Or.inl ⟨by rfl, ?_⟩) (by assumption) ?_
                    rotate_left
                    · (intro wz hSw; (try dsimp only at hSw); go_simp; (try with_reducible rfl))
                    (try simp only [Act.put, List.setIfInBounds_toArray, List.set_cons_zero, List.set_cons_succ])
                    refine wpAnyZ_ready (rs := [1]) (by kernel_rfl) (by simp) ?_
                    refine AllReadyZ.cons (o := { dst := some 135, op := Op.call { callee := Callee.value (Operand.func 42), args := #[Operand.tmp 134], argTypes := #[73] }, type := 4, pos := "ref.go:56", after := #[{ on := 0, ground := Ground.data }], guard := none }) rfl (fun KK hKK => ?_) AllReadyZ.nil
                    go_simp
                    refine (rmail_any ml wz2).mono ?_
                    rintro e wz3 ⟨rfl, hk⟩
                    clear hHeld
                    replace OX := Lib.hid (OX.out.kept hk)
                    replace OB := Lib.hid (OB.out.kept hk)
                    replace OM := Lib.hid (OM.out.kept hk)
                    replace K := K.trans hk
                    replace kr := kr.trans hk
                    rw [HRM.out]
                    clear hk
                    go_wp2_with fail
                    refine hKK.out _ _ ?_ (fun hHeld => ?_)
                    · exact kr
                    clear hKK KK
                    (try simp only [Act.put, List.setIfInBounds_toArray, List.set_cons_zero, List.set_cons_succ])
                    refine wpAnyZ_take (i := 2) (oi := { dst := some 136, op := Op.unOp UnOp.not 4 (Operand.tmp 135), type := 4, pos := "ref.go:56", after := #[{ on := 1, ground := Ground.data }], guard := none }) (v := ?_) rfl (by kernel_rfl) (fun _ _ _ h => h) (Or.inl ⟨by rfl, ?_⟩) (by assumption) ?_
                    rotate_left
                    · (intro wz hSw; (try dsimp only at hSw); go_simp; (try with_reducible rfl))
                    (try simp only [Act.put, List.setIfInBounds_toArray, List.set_cons_zero, List.set_cons_succ])
                    refine wpAnyZ_take (i := 3) (oi := { dst := some 137, op := Op.move (Operand.tmp 136), type := 4, pos := "ref.go:56", after := #[{ on := 2, ground := Ground.data }, { on := 1, ground := Ground.chain }], guard := none }) (v := ?_) rfl (by kernel_rfl) (fun _ _ _ h => h) (Or.inl ⟨by rfl, ?_⟩) (by assumption) ?_
                    rotate_left
                    · (intro wz hSw; (try dsimp only at hSw); go_simp; (try with_reducible rfl))
                    (try simp only [Act.put, List.setIfInBounds_toArray, List.set_cons_zero, List.set_cons_succ])
                    refine wpAnyZ_take (i := 4) (oi := { dst := some 138, op := Op.fieldAddr 73 (Operand.tmp 8) 0, type := 0, pos := "ref.go:56", after := #[{ on := 3, ground := Ground.guard }], guard := some (3, false) }) (v := undef) rfl (by kernel_rfl) (fun _ _ _ h => h) (Or.inr ⟨by rfl, rfl⟩) (by assumption) ?_
                    (try simp only [Act.put, List.setIfInBounds_toArray, List.set_cons_zero, List.set_cons_succ])
                    refine wpAnyZ_take (i := 5) (oi := { dst := some 139, op := Op.load 3 (Operand.tmp 138), type := 3, pos := "ref.go:56", after := #[{ on := 4, ground := Ground.data }, { on := 3, ground := Ground.guard }], guard := some (3, false) }) (v := undef) rfl (by kernel_rfl) (fun _ _ _ h => h) (Or.inr ⟨by rfl, rfl⟩) (by assumption) ?_
                    (try simp only [Act.put, List.setIfInBounds_toArray, List.set_cons_zero, List.set_cons_succ])
                    refine wpAnyZ_take (i := 6) (oi := { dst := some 140, op := Op.fieldAddr 43 (Operand.tmp 6) 2, type := 0, pos := "ref.go:56", after := #[{ on := 3, ground := Ground.guard }], guard := some (3, false) }) (v := undef) rfl (by kernel_rfl) (fun _ _ _ h => h) (Or.inr ⟨by rfl, rfl⟩) (by assumption) ?_
                    (try simp only [Act.put, List.setIfInBounds_toArray, List.set_cons_zero, List.set_cons_succ])
                    refine wpAnyZ_take (i := 7) (oi := { dst := some 141, op := Op.load 3 (Operand.tmp 140), type := 3, pos := "ref.go:56", after := #[{ on := 6, ground := Ground.data }, { on := 3, ground := Ground.guard }], guard := some (3, false) }) (v := undef) rfl (by kernel_rfl) (fun _ _ _ h => h) (Or.inr ⟨by rfl, rfl⟩) (by assumption) ?_
                    (try simp only [Act.put, List.setIfInBounds_toArray, List.set_cons_zero, List.set_cons_succ])
                    refine wpAnyZ_take (i := 8) (oi := { dst := some 142, op := Op.binOp BinOp.geq 3 (Operand.tmp 139) (Operand.tmp 141) 3, type := 4, pos := "ref.go:56", after := #[{ on := 5, ground := Ground.data }, { on := 7, ground := Ground.data }, { on := 3, ground := Ground.guard }], guard := some (3, false) }) (v := undef) rfl (by kernel_rfl) (fun _ _ _ h => h) (Or.inr ⟨by rfl, rfl⟩) (by assumption) ?_
                    (try simp only [Act.put, List.setIfInBounds_toArray, List.set_cons_zero, List.set_cons_succ])
                    refine wpAnyZ_take (i := 9) (oi := { dst := some 143, op := Op.pick (Operand.tmp 137) (Operand.const (Value.bool true)) (Operand.tmp 142), type := 4, pos := "ref.go:56", after := #[{ on := 3, ground := Ground.data }, { on := 8, ground := Ground.data }], guard := none }) (v := ?_) rfl (by kernel_rfl) (fun _ _ _ h => h) (Or.inl ⟨by rfl, ?_⟩) (by assumption) ?_
                    rotate_left
                    · (intro wz hSw; (try dsimp only at hSw); go_simp; (try with_reducible rfl))
                    (try simp only [Act.put, List.setIfInBounds_toArray, List.set_cons_zero, List.set_cons_succ])
                    refine wpAnyZ_take (i := 10) (oi := { dst := some 144, op := Op.move (Operand.tmp 143), type := 4, pos := "ref.go:56", after := #[{ on := 9, ground := Ground.data }, { on := 3, ground := Ground.chain }], guard := none }) (v := ?_) rfl (by kernel_rfl) (fun _ _ _ h => h) (Or.inl ⟨by rfl, ?_⟩) (by assumption) ?_
                    rotate_left
                    · (intro wz hSw; (try dsimp only at hSw); go_simp; (try with_reducible rfl))
                    (try simp only [Act.put, List.setIfInBounds_toArray, List.set_cons_zero, List.set_cons_succ])
                    refine wpAnyZ_take (i := 11) (oi := { dst := some 145, op := Op.move (Operand.tmp 7), type := 3, pos := "ref.go:56", after := #[{ on := 10, ground := Ground.guard }], guard := some (10, false) }) (v := undef) rfl (by kernel_rfl) (fun _ _ _ h => h) (Or.inr ⟨by rfl, rfl⟩) (by assumption) ?_
                    (try simp only [Act.put, List.setIfInBounds_toArray, List.set_cons_zero, List.set_cons_succ])
                    refine wpAnyZ_take (i := 12) (oi := { dst := some 146, op := Op.binOp BinOp.gtr 3 (Operand.tmp 145) (Operand.const (Value.int IntKind.i64 0)) 3, type := 4, pos := "ref.go:56", after := #[{ on := 11, ground := Ground.data }, { on := 10, ground := Ground.guard }], guard := some (10, false) }) (v := undef) rfl (by kernel_rfl) (fun _ _ _ h => h) (Or.inr ⟨by rfl, rfl⟩) (by assumption) ?_
                    (try simp only [Act.put, List.setIfInBounds_toArray, List.set_cons_zero, List.set_cons_succ])
                    refine wpAnyZ_take (i := 13) (oi := { dst := some 147, op := Op.move (Operand.tmp 146), type := 4, pos := "ref.go:56", after := #[{ on := 12, ground := Ground.data }, { on := 10, ground := Ground.chain }, { on := 10, ground := Ground.guard }], guard := some (10, false) }) (v := undef) rfl (by kernel_rfl) (fun _ _ _ h => h) (Or.inr ⟨by rfl, rfl⟩) (by assumption) ?_
                    (try simp only [Act.put, List.setIfInBounds_toArray, List.set_cons_zero, List.set_cons_succ])
                    refine wpAnyZ_take (i := 14) (oi := { dst := some 148, op := Op.fieldAddr 43 (Operand.tmp 6) 3, type := 0, pos := "ref.go:56", after := #[{ on := 13, ground := Ground.guard }], guard := some (13, true) }) (v := undef) rfl (by kernel_rfl) (fun _ _ _ h => h) (Or.inr ⟨by rfl, rfl⟩) (by assumption) ?_
                    (try simp only [Act.put, List.setIfInBounds_toArray, List.set_cons_zero, List.set_cons_succ])
                    refine wpAnyZ_take (i := 15) (oi := { dst := some 149, op := Op.load 41 (Operand.tmp 148), type := 41, pos := "ref.go:56", after := #[{ on := 14, ground := Ground.data }, { on := 13, ground := Ground.guard }], guard := some (13, true) }) (v := undef) rfl (by kernel_rfl) (fun _ _ _ h => h) (Or.inr ⟨by rfl, rfl⟩) (by assumption) ?_
                    (try simp only [Act.put, List.setIfInBounds_toArray, List.set_cons_zero, List.set_cons_succ])
                    refine wpAnyZ_take (i := 16) (oi := { dst := some 150, op := Op.move (Operand.tmp 7), type := 3, pos := "ref.go:56", after := #[{ on := 13, ground := Ground.guard }], guard := some (13, true) }) (v := undef) rfl (by kernel_rfl) (fun _ _ _ h => h) (Or.inr ⟨by rfl, rfl⟩) (by assumption) ?_
                    (try simp only [Act.put, List.setIfInBounds_toArray, List.set_cons_zero, List.set_cons_succ])
                    refine wpAnyZ_take (i := 17) (oi := { dst := some 151, op := Op.binOp BinOp.sub 3 (Operand.tmp 150) (Operand.const (Value.int IntKind.i64 1)) 3, type := 3, pos := "ref.go:56", after := #[{ on := 16, ground := Ground.data }, { on := 13, ground := Ground.guard }], guard := some (13, true) }) (v := undef) rfl (by kernel_rfl) (fun _ _ _ h => h) (Or.inr ⟨by rfl, rfl⟩) (by assumption) ?_
                    (try simp only [Act.put, List.setIfInBounds_toArray, List.set_cons_zero, List.set_cons_succ])
                    refine wpAnyZ_take (i := 18) (oi := { dst := some 152, op := Op.indexAddr 41 (Operand.tmp 149) (Operand.tmp 151), type := 0, pos := "ref.go:56", after := #[{ on := 15, ground := Ground.data }, { on := 17, ground := Ground.data }, { on := 13, ground := Ground.guard }], guard := some (13, true) }) (v := undef) rfl (by kernel_rfl) (fun _ _ _ h => h) (Or.inr ⟨by rfl, rfl⟩) (by assumption) ?_
                    (try simp only [Act.put, List.setIfInBounds_toArray, List.set_cons_zero, List.set_cons_succ])
                    refine wpAnyZ_take (i := 19) (oi := { dst := some 153, op := Op.fieldAddr 73 (Operand.tmp 152) 0, type := 0, pos := "ref.go:56", after := #[{ on := 18, ground := Ground.data }, { on := 13, ground := Ground.guard }], guard := some (13, true) }) (v := undef) rfl (by kernel_rfl) (fun _ _ _ h => h) (Or.inr ⟨by rfl, rfl⟩) (by assumption) ?_
                    (try simp only [Act.put, List.setIfInBounds_toArray, List.set_cons_zero, List.set_cons_succ])
                    refine wpAnyZ_take (i := 20) (oi := { dst := some 154, op := Op.load 3 (Operand.tmp 153), type := 3, pos := "ref.go:56", after := #[{ on := 19, ground := Ground.data }, { on := 13, ground := Ground.guard }], guard := some (13, true) }) (v := undef) rfl (by kernel_rfl) (fun _ _ _ h => h) (Or.inr ⟨by rfl, rfl⟩) (by assumption) ?_
                    (try simp only [Act.put, List.setIfInBounds_toArray, List.set_cons_zero, List.set_cons_succ])
                    refine wpAnyZ_take (i := 21) (oi := { dst := some 155, op := Op.fieldAddr 73 (Operand.tmp 8) 0, type := 0, pos := "ref.go:56", after := #[{ on := 13, ground := Ground.guard }], guard := some (13, true) }) (v := undef) rfl (by kernel_rfl) (fun _ _ _ h => h) (Or.inr ⟨by rfl, rfl⟩) (by assumption) ?_
                    (try simp only [Act.put, List.setIfInBounds_toArray, List.set_cons_zero, List.set_cons_succ])
                    refine wpAnyZ_take (i := 22) (oi := { dst := some 156, op := Op.load 3 (Operand.tmp 155), type := 3, pos := "ref.go:56", after := #[{ on := 21, ground := Ground.data }, { on := 13, ground := Ground.guard }], guard := some (13, true) }) (v := undef) rfl (by kernel_rfl) (fun _ _ _ h => h) (Or.inr ⟨by rfl, rfl⟩) (by assumption) ?_
                    (try simp only [Act.put, List.setIfInBounds_toArray, List.set_cons_zero, List.set_cons_succ])
                    refine wpAnyZ_take (i := 23) (oi := { dst := some 157, op := Op.binOp BinOp.geq 3 (Operand.tmp 154) (Operand.tmp 156) 3, type := 4, pos := "ref.go:56", after := #[{ on := 20, ground := Ground.data }, { on := 22, ground := Ground.data }, { on := 13, ground := Ground.guard }], guard := some (13, true) }) (v := undef) rfl (by kernel_rfl) (fun _ _ _ h => h) (Or.inr ⟨by rfl, rfl⟩) (by assumption) ?_
                    (try simp only [Act.put, List.setIfInBounds_toArray, List.set_cons_zero, List.set_cons_succ])
                    refine wpAnyZ_take (i := 24) (oi := { dst := some 158, op := Op.pick (Operand.tmp 147) (Operand.tmp 157) (Operand.const (Value.bool false)), type := 4, pos := "ref.go:56", after := #[{ on := 13, ground := Ground.data }, { on := 23, ground := Ground.data }, { on := 10, ground := Ground.guard }], guard := some (10, false) }) (v := undef) rfl (by kernel_rfl) (fun _ _ _ h => h) (Or.inr ⟨by rfl, rfl⟩) (by assumption) ?_
                    (try simp only [Act.put, List.setIfInBounds_toArray, List.set_cons_zero, List.set_cons_succ])
                    refine wpAnyZ_take (i := 25) (oi := { dst := some 159, op := Op.pick (Operand.tmp 144) (Operand.const (Value.bool true)) (Operand.tmp 158), type := 4, pos := "ref.go:56", after := #[{ on := 10, ground := Ground.data }, { on := 24, ground := Ground.data }], guard := none }) (v := ?_) rfl (by kernel_rfl) (fun _ _ _ h => h) (Or.inl ⟨by rfl, ?_⟩) (by assumption) ?_
                    rotate_left
                    · (intro wz hSw; (try dsimp only at hSw); go_simp; (try with_reducible rfl))
                    (try simp only [Act.put, List.setIfInBounds_toArray, List.set_cons_zero, List.set_cons_succ])
                    refine wpAnyZ_done (by kernel_rfl) ?_ _
                    clear CX0 CX1 CX2 CB0 CB1 CB2 CB3 CM0 CM1 CM2 CM3 hHeld kr
                    go_wp2
                    go_ret
                    exact ⟨ret_bool (HNO2.out (by rw [HMC.out, HRM.out]; simp)), K⟩
                · obtain rfl : i = B.mails.length := by omega
                  have HALM : Hid (stepC x k = true) := by show _ = _; rw [HSC.out, HH.out, allTo_iff.2 HI.out]; rfl
                  go_wp2
                  go_roundw
                  case rel =>
                    refine ⟨k + 1, t + B.mails.length, by omega, by go_num, rfl, by show _ = _; rw [HTT.out, HT.out], by omega, fun l hl => ?_, OX.out, K⟩
                    by_cases e : l = k
                    · subst e; exact HALM.out
                    · exact HS.out l (by omega)
                  case measure => simp [intOf]; omega
            · rw [hh]
              have HH := Lib.hid hh
              clear hh
              go_wp2
              go_ret
              exact ⟨ret_bool (HNO.out (by rw [HSC.out, HH.out]; rfl)), K⟩
        · obtain rfl : k = n := by omega
          have HALL2 : Hid (allTo (stepC x) k = true) := allTo_iff.2 HS.out
          go_wp2
          go_ret
          exact ⟨ret_bool (by rw [HALL.out, HALL2.out, ← HT.out]; simp; omega), K⟩
end Go.Proofs.Ytjinnkbnllnllaa
