/- Walks: store.contents, slots, find. -/
import Derived.Test.YtagpimahicgkmaaDoorStD
import Derived.Test.YtagpimahicgkmaaDoorMa
namespace Go.Proofs.YtagpimahicgkmaaDoor
open Go.RowKit

theorem run_sec2 (A B : Option Addr) (n c m e : Nat) (w : World) : (Instr.field 25 (.agg #[.slice A n c, .slice B m e]) 0).run Tryd.prog w = .ok (.slice A n c) w := by kernel_rfl
def storeB (d : Dk) : Bool := decide (d.sec.length = 381) && rightB d
def contD (d : Dk) : List ByteArray := if storeB d then viewD d else []
theorem storeB_parts {d : Dk} (h : storeB d = true) : d.sec.length = 381 ∧ rightB d = true := by
  simp only [storeB, Bool.and_eq_true, decide_eq_true_eq] at h; exact h
theorem contD_yes {d : Dk} (h : storeB d = true) : contD d = viewD d := by unfold contD; rw [if_pos h]
theorem contD_no {d : Dk} (h : storeB d = false) : contD d = [] := by unfold contD; rw [h]; rfl
theorem contD_len {d : Dk} (h : storeB d = true) : (contD d).length = 381 := by rw [contD_yes h, view_len]; exact (storeB_parts h).1
theorem contD_64 {d : Dk} (h : storeB d = true) : ∀ s ∈ contD d, s.size = 64 := by rw [contD_yes h]; exact (right_parts (right_flush (storeB_parts h).2)).2.2.1
theorem ret_sb2 {r : Value} {a b : Bool} (h : a = b) : Ending.returned (.tuple #[r, .bool a]) = .returned (.tuple #[r, .bool b]) := by rw [h]
/-- What the slots say. -/
def slTo (c : List ByteArray) (k : Nat) : List Slot := (List.range 32).map fun i => if i < k then decS (c.getD (61 + i) .empty) else slot0
def slotsL (c : List ByteArray) : List Slot := slTo c 32
theorem slTo_len (c : List ByteArray) (k : Nat) : (slTo c k).length = 32 := by simp [slTo]
theorem slTo_succ (c : List ByteArray) (k : Nat) : slTo c (k + 1) = (slTo c k).set k (decS (c.getD (61 + k) .empty)) := by
  apply List.ext_getElem
  · simp [slTo]
  · intro i h1 h2
    rw [List.getElem_set]
    simp only [slTo, List.getElem_map, List.getElem_range]
    by_cases e : k = i
    · subst e; simp
    · rw [if_neg e]
      by_cases h : i < k
      · rw [if_pos (by omega), if_pos h]
      · rw [if_neg (by omega), if_neg h]
theorem slot_len (l : List Slot) : (l.flatMap slotC).length = l.length * 5 := by
  induction l with
  | nil => rfl
  | cons a l ih => rw [List.flatMap_cons, List.length_append, ih]; simp [slotC]; omega
theorem slot_at {l : List Slot} {k : Nat} (h : k < l.length) : ∀ j, j < 5 → (l.flatMap slotC)[k * 5 + j]? = (slotC l[k])[j]? := by
  induction l generalizing k with
  | nil => simp at h
  | cons a l ih =>
    intro j hj
    cases k with
    | zero => rw [List.flatMap_cons, Nat.zero_mul, Nat.zero_add, List.getElem?_append_left (by simp [slotC]; omega)]; rfl
    | succ k =>
      rw [List.flatMap_cons, List.getElem?_append_right (by simp [slotC]; omega), show (k + 1) * 5 + j - (slotC a).length = k * 5 + j by simp [slotC]; omega, ih (by simpa using h) j hj]; rfl
theorem slot_set {l : List Slot} {k : Nat} (h : k < l.length) (t : Slot) : (((((l.flatMap slotC).set (k * 5) (.bool t.used)).set (k * 5 + 1) (.int .i64 (t.cls : Int))).set (k * 5 + 2) (.int .i64 (t.blk : Int))).set (k * 5 + 3) (.int .i64 (t.size : Int))).set (k * 5 + 4) (.string t.name) = (l.set k t).flatMap slotC := by
  induction l generalizing k with
  | nil => simp at h
  | cons a l ih =>
    cases k with
    | zero => simp [slotC]
    | succ k =>
      have := ih (k := k) (by simpa using h)
      rw [List.set_cons_succ]
      show _ = slotC a ++ (l.set k t).flatMap slotC
      rw [← this, List.flatMap_cons]
      simp only [slotC, show (k + 1) * 5 = k * 5 + 5 by omega, show k * 5 + 5 + 1 = k * 5 + 1 + 5 by omega, show k * 5 + 5 + 2 = k * 5 + 2 + 5 by omega, show k * 5 + 5 + 3 = k * 5 + 3 + 5 by omega, show k * 5 + 5 + 4 = k * 5 + 4 + 5 by omega]
      rfl
theorem slotC_five (t : Slot) : (slotC t)[0]? = some (.bool t.used) ∧ (slotC t)[1]? = some (.int .i64 (t.cls : Int)) ∧ (slotC t)[2]? = some (.int .i64 (t.blk : Int)) ∧ (slotC t)[3]? = some (.int .i64 (t.size : Int)) ∧ (slotC t)[4]? = some (.string t.name) := ⟨rfl, rfl, rfl, rfl, rfl⟩
def ixI (p : Slot → Bool) (l : List Slot) : Int := match l.findIdx? p with | some i => (i : Int) | none => -1
theorem ixI_some {p : Slot → Bool} {l : List Slot} {k : Nat} (h : k < l.length) (hp : p l[k] = true) (hn : ∀ j (hj : j < l.length), j < k → p l[j] = false) : ixI p l = (k : Int) := by
  have : l.findIdx? p = some k := by
    rw [List.findIdx?_eq_some_iff_getElem]
    exact ⟨h, hp, fun j hj => by simp [hn j (by omega) hj]⟩
  unfold ixI; rw [this]
theorem ixI_none {p : Slot → Bool} {l : List Slot} (hn : ∀ j (hj : j < l.length), p l[j] = false) : ixI p l = -1 := by
  have : l.findIdx? p = none := by
    rw [List.findIdx?_eq_none_iff]
    intro x hx
    obtain ⟨j, hj, rfl⟩ := List.mem_iff_getElem.1 hx
    simp [hn j hj]
  unfold ixI; rw [this]
def nameP (nm : ByteArray) (t : Slot) : Bool := t.used && (t.name.toList == nm.toList)
def freeP (t : Slot) : Bool := !t.used

set_option maxRecDepth 100000 in
set_option maxHeartbeats 1000000 in
theorem contents_any (V : List Nat) (d : Dk) (v : Value) (w : World) (h : DkAt V w v d) (hV : Old V w) :
    Calls Tryd.prog 67 #[v] w fun e w' => ∃ r, e = .returned (.tuple #[r, .bool (storeB d)]) ∧ StrsAt V w' r (contD d) ∧ Kept w w' := by
  have HOV := Lib.hid hV
  have HD := Lib.hid h
  obtain ⟨_, _, rfl, _, _⟩ := h
  obtain ⟨A0, c0, B0, e0, rfl, rfl⟩ := HD.out.form
  clear hV
  generalize hn0 : d.sec.length = n0 at *
  generalize hm0 : d.cache.length = m0 at *
  have HN0 := Lib.hid hn0
  clear hn0 hm0
  by_cases hn : n0 = 381
  · subst hn
    go_enter Tryd.func67, Tryd.ntmps67
    go_wp2_with fail
    have OD := Lib.hid (Own.newAt w w.heap.size 25 [.slice A0 381 c0, .slice B0 m0 e0] (by simp))
    have K := ((Kept.refl w).alloc (.cells #[.slice A0 381 c0, .slice B0 m0 e0] 25))
    generalize (w.alloc (.cells #[.slice A0 381 c0, .slice B0 m0 e0] 25)) = w1 at *
    obtain ⟨cD0, cD1, fD0, fD1⟩ := OD.out.two
    clear cD0 cD1 fD0 fD1
    replace HD := Lib.hid (HD.out.go K (Ext.refl _ _))
    refine (right_any V d _ _ HD.out).mono ?_
    rintro e w2 ⟨rfl, hk⟩
    replace OD := Lib.hid (OD.out.kept hk)
    replace HD := Lib.hid (HD.out.go hk (Ext.refl _ _))
    replace K := K.trans hk
    clear hk
    rcases Bool.eq_false_or_eq_true (rightB d) with hr | hr
    · rw [hr]
      have HE : Hid (storeB d = true) := by show _ = _; unfold storeB; rw [HN0.out, hr]; rfl
      have HFV := Lib.hid (flushD_view hr)
      obtain ⟨cD0, cD1, fD0, fD1⟩ := OD.out.two
      go_wp2_with fail
      refine (flush_any V d _ _ HD.out (HOV.out.go K)).mono ?_
      rintro e w3 ⟨s2, d2, rfl, hd2, hk⟩
      clear cD0 cD1 fD0 fD1
      replace OD := Lib.hid (OD.out.kept hk)
      replace HD := Lib.hid (HD.out.go hk (Ext.refl _ _))
      replace K := K.trans hk
      rw [HFV.out] at hd2
      obtain ⟨A1, c1, A2, c2, rfl, rfl⟩ := hd2.form
      obtain ⟨_, _, hc1, hc2, _, _, hrow, _⟩ := hd2.rows
      have HRW := Lib.hid hrow
      dsimp only [List.length_nil] at hc1 ⊢
      have hcl : (viewD d).length = 381 := by rw [view_len, HN0.out]
      rw [hcl] at hc1 ⊢
      have HCL := Lib.hid hcl
      clear hd2 hcl hrow
      have hfd := run_sec2 A1 A2 381 c1 0 c2
      clear hk
      go_wp2
      go_ret2
      exact ⟨_, ret_sb2 HE.out.symm, by rw [contD_yes HE.out]; exact ⟨_, _, by rw [HCL.out]; rfl, by rw [HCL.out]; exact hc1, hc2, HRW.out⟩, K⟩
    · rw [hr]
      have HE : Hid (storeB d = false) := by show _ = _; unfold storeB; rw [hr, Bool.and_false]
      obtain ⟨cD0, cD1, fD0, fD1⟩ := OD.out.two
      go_wp2
      all_goals (go_ret2; exact ⟨_, ret_sb2 HE.out.symm, by rw [contD_no HE.out]; exact strsAt_nil _ _, K⟩)
  · have t1 := bne_t (a := (n0 : Int)) (b := 381) (by omega)
    have HE : Hid (storeB d = false) := by show _ = _; unfold storeB; rw [HN0.out, decide_eq_false hn]; rfl
    go_enter Tryd.func67, Tryd.ntmps67
    go_wp2_with fail
    have OD := Lib.hid (Own.newAt w w.heap.size 25 [.slice A0 n0 c0, .slice B0 m0 e0] (by simp))
    have K := ((Kept.refl w).alloc (.cells #[.slice A0 n0 c0, .slice B0 m0 e0] 25))
    generalize (w.alloc (.cells #[.slice A0 n0 c0, .slice B0 m0 e0] 25)) = w1 at *
    obtain ⟨cD0, cD1, fD0, fD1⟩ := OD.out.two
    clear cD0 cD1 fD0 fD1
    replace HD := Lib.hid (HD.out.go K (Ext.refl _ _))
    obtain ⟨cD0, cD1, fD0, fD1⟩ := OD.out.two
    go_wp2
    all_goals (go_ret2; exact ⟨_, ret_sb2 HE.out.symm, by rw [contD_no HE.out]; exact strsAt_nil _ _, K⟩)
set_option maxRecDepth 100000 in
set_option maxHeartbeats 2000000 in
theorem slots_any (c : List ByteArray) (v : Value) (w : World) (h : StrsAt [] w v c) (hl : c.length = 381) (h64 : ∀ s ∈ c, s.size = 64) :
    Calls Tryd.prog 68 #[v] w fun e w' => ∃ g, e = .returned (.slice (some ⟨g, 0, none⟩) 32 32) ∧ w.heap.size ≤ g ∧ Own w' g 121 ((slotsL c).flatMap slotC) ∧ Kept w w' := by
  obtain ⟨A, cp, rfl, hc1, hc2, hrow⟩ := h
  unfold maxLen at hc2
  have HROW := Lib.hid hrow
  have H64 := Lib.hid h64
  have hc3 : 381 ≤ c.length := by omega
  rw [hl] at hc1 ⊢
  clear hrow h64 hl
  have hmk : ∀ w' : World, (Instr.makeSlice 118 (.int .i64 32) (.int .i64 32)).run Tryd.prog w' = .ok (.slice (some ⟨w'.heap.size, 0, none⟩) 32 32) (w'.alloc (.cells ((slTo c 0).flatMap slotC).toArray 121)) := fun w' => by
    rw [show ((slTo c 0).flatMap slotC).toArray = (((List.range 32).map fun _ => slot0).flatMap slotC).toArray by
      congr 2]
    kernel_rfl
  go_enter Tryd.func68, Tryd.ntmps68
  go_wp2
  have OL := Lib.hid (Own.new w 121 ((slTo c 0).flatMap slotC))
  have K : Kept w (w.alloc (.cells ((slTo c 0).flatMap slotC).toArray 121)) := (Kept.refl w).alloc _
  generalize (w.alloc (.cells ((slTo c 0).flatMap slotC).toArray 121)) = w1 at *
  generalize hg : w.heap.size = g at *
  clear hmk
  go_loopw [8] (fun iv wq => ∃ (k : Nat), k ≤ 32 ∧ iv = .int .i64 k ∧ Own wq g 121 ((slTo c k).flatMap slotC) ∧ Kept w wq) (fun iv _ => 32 - (intOf iv).toNat)
  case atStart => exact ⟨0, Nat.zero_le _, rfl, OL.out, K⟩
  case round =>
    clear OL K
    obtain ⟨k, hk, rfl, ol, K⟩ := hrel
    have OL := Lib.hid ol
    clear ol
    by_cases hlt : k < 32
    · have hlt' : (k : Int) < 32 := by omega
      have k0 : (0 : Int) ≤ (k : Int) := by omega
      obtain ⟨b2, o2, rfl, hb2, _, hcs2⟩ := HROW.out.kept K (by rw [strs_length]; omega)
      have g1 : wr.cell? ⟨b2, o2 + (61 + k), none⟩ = some (.string (c.getD (61 + k) .empty)) := hcs2 _ _ (by unfold strs; rw [List.getElem?_map, List.getD_eq_getElem?_getD, List.getElem?_eq_getElem (by omega)]; rfl)
      have hs64 : (c.getD (61 + k) .empty).size = 64 := H64.out _ (by rw [List.getD_eq_getElem?_getD, List.getElem?_eq_getElem (by omega)]; exact List.getElem_mem _)
      have HSU := Lib.hid (slTo_succ c k)
      generalize c.getD (61 + k) .empty = s at *
      have zb2 := hb2
      have i1 : (0 : Int) ≤ 61 + (k : Int) := by omega
      have i2 : 61 + (k : Int) < 381 := by omega
      have i3 : (61 + (k : Int)).toNat = 61 + k := by omega
      have HC := Lib.hid hc3
      clear hcs2
      go_wp2_with fail
      refine (dec_any s _ hs64).mono ?_
      rintro e w5 ⟨rfl, hk5⟩
      replace OL := Lib.hid (OL.out.kept hk5)
      replace K := K.trans hk5
      have zg := OL.out.lt
      clear hk5 g1
      generalize decS s = tt at *
      obtain ⟨tu, tc, tb, tz, tn⟩ := tt
      rw [show (slotC ⟨tu, tc, tb, tz, tn⟩).toArray = #[.bool tu, .int .i64 (tc : Int), .int .i64 (tb : Int), .int .i64 (tz : Int), .string tn] from rfl]
      have HL1 : Hid (((slTo c k).flatMap slotC).length = 160) := by show _ = _; rw [slot_len, slTo_len]
      have HST := Lib.hid (slot_set (l := slTo c k) (k := k) (by rw [slTo_len]; exact hlt) ⟨tu, tc, tb, tz, tn⟩)
      have f0 := OL.out.frozen (k * 5)
      have f1 := OL.out.frozen (k * 5 + 1)
      have f2 := OL.out.frozen (k * 5 + 2)
      have f3 := OL.out.frozen (k * 5 + 3)
      have f4 := OL.out.frozen (k * 5 + 4)
      obtain ⟨o0, ho0⟩ : ∃ x, w5.cell? ⟨g, k * 5, none⟩ = some x := ⟨_, OL.out.cell (by rw [HL1.out]; omega)⟩
      obtain ⟨o1, ho1⟩ : ∃ x, w5.cell? ⟨g, k * 5 + 1, none⟩ = some x := ⟨_, OL.out.cell (by rw [HL1.out]; omega)⟩
      obtain ⟨o2', ho2⟩ : ∃ x, w5.cell? ⟨g, k * 5 + 2, none⟩ = some x := ⟨_, OL.out.cell (by rw [HL1.out]; omega)⟩
      obtain ⟨o3, ho3⟩ : ∃ x, w5.cell? ⟨g, k * 5 + 3, none⟩ = some x := ⟨_, OL.out.cell (by rw [HL1.out]; omega)⟩
      obtain ⟨o4, ho4⟩ : ∃ x, w5.cell? ⟨g, k * 5 + 4, none⟩ = some x := ⟨_, OL.out.cell (by rw [HL1.out]; omega)⟩
      have hwg : w.heap.size ≤ g := by omega
      go_wp2
      go_roundw
      case rel => exact ⟨k + 1, by omega, by go_num, by rw [HSU.out, ← HST.out]; exact ((((OL.out.set_ _ _).set_ _ _).set_ _ _).set_ _ _).set_ _ _, ((((K.setCell (p := ⟨g, k * 5, none⟩) hwg _).setCell (p := ⟨g, k * 5 + 1, none⟩) hwg _).setCell (p := ⟨g, k * 5 + 2, none⟩) hwg _).setCell (p := ⟨g, k * 5 + 3, none⟩) hwg _).setCell (p := ⟨g, k * 5 + 4, none⟩) hwg _⟩
      case measure => simp [intOf]; omega
    · obtain rfl : k = 32 := by omega
      go_wp2
      go_ret
      exact ⟨g, rfl, by omega, OL.out, K⟩
set_option maxRecDepth 100000 in
set_option maxHeartbeats 2000000 in
theorem ixf_name (l : List Slot) (g cap : Nat) (nm : ByteArray) (nb : Nat) (w : World) (hl : Own w g 121 (l.flatMap slotC)) (hn : l.length ≤ 1000) (hb : w.cell? ⟨nb, 0, none⟩ = some (.string nm)) (hnb : nb < w.heap.size) :
    Calls Tryd.prog 90 #[.slice (some ⟨g, 0, none⟩) l.length cap, .func (.func 95) #[] #[.pointer (some ⟨nb, 0, none⟩)]] w fun e w' => e = .returned (.int .i64 (ixI (nameP nm) l)) ∧ Kept w w' := by
  have HL := Lib.hid hl
  have HNB := Lib.hid hb
  clear hl hb
  go_enter Tryd.func90, Tryd.ntmps90
  go_wp2_with fail
  go_loopw [8] (fun iv wq => ∃ (k : Nat), k ≤ l.length ∧ iv = .int .i64 k ∧ Hid (∀ j (hj : j < l.length), j < k → (nameP nm) l[j] = false) ∧ Kept w wq) (fun iv _ => l.length - (intOf iv).toNat)
  case atStart => exact ⟨0, Nat.zero_le _, rfl, fun j _ h => by omega, Kept.refl _⟩
  case round =>
    obtain ⟨k, hk, rfl, HA, K⟩ := hrel
    have OL := Lib.hid (HL.out.kept K)
    by_cases hlt : k < l.length
    · have k0 : (0 : Int) ≤ (k : Int) := by omega
      obtain ⟨e0, e1, e2, e3, e4⟩ := slotC_five l[k]
      have c0 : wr.cell? ⟨g, k * 5, none⟩ = some (.bool l[k].used) := by rw [OL.out.cell?]; exact (slot_at hlt 0 (by omega)).trans e0
      have c1 : wr.cell? ⟨g, k * 5 + 1, none⟩ = some (.int .i64 (l[k].cls : Int)) := by rw [OL.out.cell?]; exact (slot_at hlt 1 (by omega)).trans e1
      have c2 : wr.cell? ⟨g, k * 5 + 2, none⟩ = some (.int .i64 (l[k].blk : Int)) := by rw [OL.out.cell?]; exact (slot_at hlt 2 (by omega)).trans e2
      have c3 : wr.cell? ⟨g, k * 5 + 3, none⟩ = some (.int .i64 (l[k].size : Int)) := by rw [OL.out.cell?]; exact (slot_at hlt 3 (by omega)).trans e3
      have c4 : wr.cell? ⟨g, k * 5 + 4, none⟩ = some (.string l[k].name) := by rw [OL.out.cell?]; exact (slot_at hlt 4 (by omega)).trans e4
      have HYE : Hid ((nameP nm) l[k] = true → ixI (nameP nm) l = (k : Int)) := fun hp => ixI_some hlt hp HA.out
      have HNO : Hid ((nameP nm) l[k] = false → ∀ j (hj : j < l.length), j < k + 1 → (nameP nm) l[j] = false) := fun hp j hj h2 => by
        by_cases e : j = k
        · subst e; exact hp
        · exact HA.out j hj (by omega)
      have zg := OL.out.lt
      clear e0 e1 e2 e3 e4
      generalize l[k] = tt at *
      obtain ⟨tu, tc, tb, tz, tn⟩ := tt
      simp only at c0 c1 c2 c3 c4
      have g9 := (K.cell (p := ⟨nb, 0, none⟩) hnb).trans HNB.out
      have z9 := Nat.lt_of_lt_of_le hnb K.size
      cases tu with
      | false =>
        go_wp2
        go_roundw
        case rel => exact ⟨k + 1, by omega, by go_num, HNO.out rfl, K.alloc _⟩
        case measure => simp [intOf]; omega
      | true =>
        obtain ⟨q, hq⟩ : ∃ q, (tn.toList == nm.toList) = q := ⟨_, rfl⟩
        have HQ : Hid (nameP nm ⟨true, tc, tb, tz, tn⟩ = q) := hq
        cases q with
        | false =>
          go_wp2
          go_roundw
          case rel => exact ⟨k + 1, by omega, by go_num, HNO.out HQ.out, K.alloc _⟩
          case measure => simp [intOf]; omega
        | true =>
          go_wp2
          go_ret
          exact ⟨by rw [HYE.out HQ.out]; rfl, K.alloc _⟩
    · have HE : Hid (ixI (nameP nm) l = -1) := ixI_none (fun j hj => HA.out j hj (by omega))
      go_wp2
      go_ret
      exact ⟨by rw [HE.out]; rfl, K⟩
set_option maxRecDepth 100000 in
set_option maxHeartbeats 2000000 in
theorem ixf_free (l : List Slot) (g cap : Nat) (w : World) (hl : Own w g 121 (l.flatMap slotC)) (hn : l.length ≤ 1000) :
    Calls Tryd.prog 90 #[.slice (some ⟨g, 0, none⟩) l.length cap, .func (.func 91) #[] #[]] w fun e w' => e = .returned (.int .i64 (ixI freeP l)) ∧ Kept w w' := by
  have HL := Lib.hid hl
  clear hl
  go_enter Tryd.func90, Tryd.ntmps90
  go_wp2_with fail
  go_loopw [8] (fun iv wq => ∃ (k : Nat), k ≤ l.length ∧ iv = .int .i64 k ∧ Hid (∀ j (hj : j < l.length), j < k → freeP l[j] = false) ∧ Kept w wq) (fun iv _ => l.length - (intOf iv).toNat)
  case atStart => exact ⟨0, Nat.zero_le _, rfl, fun j _ h => by omega, Kept.refl _⟩
  case round =>
    obtain ⟨k, hk, rfl, HA, K⟩ := hrel
    have OL := Lib.hid (HL.out.kept K)
    by_cases hlt : k < l.length
    · have k0 : (0 : Int) ≤ (k : Int) := by omega
      obtain ⟨e0, e1, e2, e3, e4⟩ := slotC_five l[k]
      have c0 : wr.cell? ⟨g, k * 5, none⟩ = some (.bool l[k].used) := by rw [OL.out.cell?]; exact (slot_at hlt 0 (by omega)).trans e0
      have c1 : wr.cell? ⟨g, k * 5 + 1, none⟩ = some (.int .i64 (l[k].cls : Int)) := by rw [OL.out.cell?]; exact (slot_at hlt 1 (by omega)).trans e1
      have c2 : wr.cell? ⟨g, k * 5 + 2, none⟩ = some (.int .i64 (l[k].blk : Int)) := by rw [OL.out.cell?]; exact (slot_at hlt 2 (by omega)).trans e2
      have c3 : wr.cell? ⟨g, k * 5 + 3, none⟩ = some (.int .i64 (l[k].size : Int)) := by rw [OL.out.cell?]; exact (slot_at hlt 3 (by omega)).trans e3
      have c4 : wr.cell? ⟨g, k * 5 + 4, none⟩ = some (.string l[k].name) := by rw [OL.out.cell?]; exact (slot_at hlt 4 (by omega)).trans e4
      have HYE : Hid (freeP l[k] = true → ixI freeP l = (k : Int)) := fun hp => ixI_some hlt hp HA.out
      have HNO : Hid (freeP l[k] = false → ∀ j (hj : j < l.length), j < k + 1 → freeP l[j] = false) := fun hp j hj h2 => by
        by_cases e : j = k
        · subst e; exact hp
        · exact HA.out j hj (by omega)
      have zg := OL.out.lt
      clear e0 e1 e2 e3 e4
      generalize l[k] = tt at *
      obtain ⟨tu, tc, tb, tz, tn⟩ := tt
      simp only at c0 c1 c2 c3 c4
      cases tu with
      | true =>
        go_wp2
        go_roundw
        case rel => exact ⟨k + 1, by omega, by go_num, HNO.out rfl, K.alloc _⟩
        case measure => simp [intOf]; omega
      | false =>
        go_wp2
        go_ret
        exact ⟨by rw [HYE.out rfl]; rfl, K.alloc _⟩
    · have HE : Hid (ixI freeP l = -1) := ixI_none (fun j hj => HA.out j hj (by omega))
      go_wp2
      go_ret
      exact ⟨by rw [HE.out]; rfl, K⟩
set_option maxHeartbeats 1000000 in
theorem find_any (l : List Slot) (g cap : Nat) (nm : ByteArray) (w : World) (hl : Own w g 121 (l.flatMap slotC)) (hn : l.length ≤ 1000) :
    Calls Tryd.prog 75 #[.slice (some ⟨g, 0, none⟩) l.length cap, .string nm] w fun e w' => e = .returned (.int .i64 (ixI (nameP nm) l)) ∧ Kept w w' := by
  have HI := Lib.hid (ixf_name l g cap nm w.heap.size (w.alloc (.cells #[.string nm] 9)) (hl.alloc _) hn (by simp [go_sem]) (by simp))
  clear hl
  go_enter Tryd.func75, Tryd.ntmps75
  go_wp2_with fail
  refine HI.out.mono ?_
  rintro e w1 ⟨rfl, hk⟩
  go_wp2
  go_ret
  exact ⟨rfl, ((Kept.refl w).alloc _).trans hk⟩
end Go.Proofs.YtagpimahicgkmaaDoor
