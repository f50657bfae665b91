/- Walk: mailsackref10.Repair. -/
import Derived.Test.YtagpimahicgkmaaDoorR10Q
import Derived.Test.YtagpimahicgkmaaDoorRfOps
import Derived.Test.YtagpimahicgkmaaDoorWalQ
import Derived.Test.YtagpimahicgkmaaDoorMa
namespace Go.Proofs.YtagpimahicgkmaaDoor
open Go.RowKit

theorem atS_sz {c : List ByteArray} (h64 : ∀ s ∈ c, s.size = 64) {i : Nat} (hi : i < c.length) : (atS c i).size = 64 := by
  unfold atS
  rw [List.getD_eq_getElem?_getD, List.getElem?_eq_getElem hi]
  exact h64 _ (List.getElem_mem _)
theorem ROps.low {w0 w1 w : World} {v : Value} {l : List WOp} (h : ROps w1 w v l) (hb : w0.heap.size ≤ w1.heap.size) : ROps w0 w v l := World.ownsRow.mono h hb
/-- The document's test of the entries, up to the i-th. -/
def rokB (c : List ByteArray) (i : Nat) : Bool := decide (0 < entN c) && decide (entN c < 31) && (List.range i).all (entOk c)
theorem rok_zero (c : List ByteArray) : rokB c 0 = (decide (0 < entN c) && decide (entN c < 31)) := by unfold rokB; simp
theorem rok_succ (c : List ByteArray) (i : Nat) : rokB c (i + 1) = (rokB c i && entOk c i) := by
  unfold rokB
  rw [List.range_succ, List.all_append]
  simp [Bool.and_assoc]
theorem rok_parts {c : List ByteArray} {i : Nat} (h : rokB c i = true) : 0 < entN c ∧ entN c < 31 ∧ ∀ j, j < i → entOk c j = true := by
  unfold rokB at h
  simp only [Bool.and_eq_true, decide_eq_true_eq, List.all_eq_true, List.mem_range] at h
  exact ⟨h.1.1, h.1.2, h.2⟩
theorem entOk_parts {c : List ByteArray} {i : Nat} (h : entOk c i = true) : 61 ≤ le4 (atS c (1 + 2 * i)) ∧ le4 (atS c (1 + 2 * i)) < c.length ∧ atS c (1 + 2 * i) = dst (le4 (atS c (1 + 2 * i))) := by
  unfold entOk at h
  simp only [Bool.and_eq_true, decide_eq_true_eq] at h
  exact ⟨h.1.1, h.1.2, h.2⟩
theorem entL_at {c : List ByteArray} {n i : Nat} (h : i < n) : atW (entL c n) i = entWr c i := by
  unfold atW entL
  rw [List.getD_eq_getElem?_getD, List.getElem?_map, List.getElem?_range h]; rfl
theorem entL_mem {c : List ByteArray} {n : Nat} {x : Wr} (h : x ∈ entL c n) : ∃ i, i < n ∧ x = entWr c i := by
  unfold entL at h
  obtain ⟨i, hi, rfl⟩ := List.mem_map.1 h
  exact ⟨i, List.mem_range.1 hi, rfl⟩
/-- The header of the entries that were read is what the program makes of their sectors. -/
theorem rent_head {c : List ByteArray} (h : rokB c (entN c) = true) (hl : 61 < c.length) : hdrOf (entL c (entN c)) = entHead c := by
  obtain ⟨h1, h2, h3⟩ := rok_parts h
  unfold hdrOf entHead joinB
  rw [entL_len, join_all c (entL c (entN c)) (entN c) (by rw [entL_len]; exact Nat.le_refl _) (fun i hi => ?_) (by omega)]
  rw [entL_len] at hi
  rw [entL_at hi]
  obtain ⟨_, _, h6⟩ := entOk_parts (h3 i hi)
  refine ⟨?_, rfl⟩
  show _ = dst ((le4 (atS c (1 + 2 * i)) : Nat) : Int).toNat
  rw [Int.toNat_natCast]; exact h6
theorem rent_yes {c : List ByteArray} (h : rokB c (entN c) = true) (hl : 61 < c.length) (he : hdrOf (entL c (entN c)) = atS c 0) : repTail c = (entL c (entN c)).map wop ++ [opF] ++ [⟨false, ⟨0, zerosB 64⟩⟩] ++ [opF] := by
  obtain ⟨h1, h2, h3⟩ := rok_parts h
  have hb : entriesB c = true := by
    unfold entriesB
    rw [← rent_head h hl, he]
    simp only [Bool.and_eq_true, decide_eq_true_eq, List.all_eq_true, List.mem_range]
    exact ⟨⟨⟨by omega, by omega⟩, trivial⟩, h3⟩
  unfold repTail tailOps
  rw [if_pos hb]
  simp [wop]
theorem rent_no {c : List ByteArray} (hl : 61 < c.length) (h : rokB c (entN c) = false ∨ hdrOf (entL c (entN c)) ≠ atS c 0) : repTail c = [] ++ [⟨false, ⟨0, zerosB 64⟩⟩] ++ [opF] := by
  have hb : entriesB c = false := by
    rw [Bool.eq_false_iff]
    intro hb
    unfold entriesB at hb
    simp only [Bool.and_eq_true, decide_eq_true_eq] at hb
    have hr : rokB c (entN c) = true := by
      unfold rokB
      simp only [Bool.and_eq_true, decide_eq_true_eq]
      exact ⟨⟨by omega, by omega⟩, hb.2⟩
    rcases h with h | h
    · rw [hr] at h; cases h
    · rw [rent_head hr hl] at h
      exact h hb.1.2.symm
  unfold repTail
  rw [hb]; rfl
theorem rok_false {c : List ByteArray} {i : Nat} (hi : i ≤ entN c) (h : rokB c i = false) : rokB c (entN c) = false := by
  rw [Bool.eq_false_iff]
  intro hb
  obtain ⟨h1, h2, h3⟩ := rok_parts hb
  rw [Bool.eq_false_iff] at h
  apply h
  unfold rokB
  simp only [Bool.and_eq_true, decide_eq_true_eq, List.all_eq_true, List.mem_range]
  exact ⟨⟨h1, h2⟩, fun j hj => h3 j (by omega)⟩
theorem le4_lt (s : ByteArray) : le4 s < 4294967296 := by
  unfold le4
  have h0 := (byteAt s 0).toNat_lt
  have h1 := (byteAt s 1).toNat_lt
  have h2 := (byteAt s 2).toNat_lt
  have h3 := (byteAt s 3).toNat_lt
  omega

set_option maxRecDepth 100000 in
set_option maxHeartbeats 4000000 in
theorem rrepair_any (d : Dk) (v : Value) (w : World) (h : DkAt [] w v d) :
    Calls Tryd.prog 17 #[v] w fun e w' => ∃ r, e = .returned r ∧ ROps w w' r (repOps d) ∧ Kept w w' := by
  have HV := Lib.hid h
  obtain ⟨_, _, rfl, _, _⟩ := h
  obtain ⟨A0, c0, B0, e0, rfl, rfl⟩ := HV.out.form
  generalize hn0 : d.sec.length = n0 at *
  generalize hm0 : d.cache.length = m0 at *
  have HN0 := Lib.hid hn0
  clear hn0 hm0
  go_enter Tryd.func17, Tryd.ntmps17
  go_wp2_with fail
  have OD := Lib.hid (Own.newAt w w.heap.size 29 [.slice A0 n0 c0, .slice B0 m0 e0] (by simp))
  have K := ((Kept.refl w).alloc (.cells #[.slice A0 n0 c0, .slice B0 m0 e0] 29))
  generalize (w.alloc (.cells #[.slice A0 n0 c0, .slice B0 m0 e0] 29)) = w1 at *
  obtain ⟨cD0, cD1, fD0, fD1⟩ := OD.out.two
  clear cD0 cD1 fD0 fD1
  refine (rjour_any [] d _ _ (HV.out.go K (Ext.refl _ _))).mono ?_
  rintro e w2 ⟨rfl, hk⟩
  replace OD := Lib.hid (OD.out.kept hk)
  replace K := K.trans hk
  clear hk
  rcases Bool.eq_false_or_eq_true (suitsB d) with hs | hs
  · skip
    rw [hs]
    obtain ⟨hlen, hright⟩ := suits_parts hs
    have HRD : Hid (∀ i, i < d.sec.length → readD d i = atS (viewD d) i) := fun i hi => (view_at hright hi).symm
    have HCL : Hid ((viewD d).length = n0) := by show _ = _; rw [view_len]; exact HN0.out
    have HC64 : Hid (∀ i, i < n0 → (atS (viewD d) i).size = 64) := fun i hi => atS_sz (right_parts (right_flush hright)).2.2.1 (by rw [view_len, HN0.out]; exact hi)
    have hn61 : 61 < n0 := by have := HN0.out; omega
    have hn1024 : n0 ≤ 1024 := by have := (right_parts hright).2.1; have := HN0.out; omega
    have HT7 : Hid (byteAt (atS (viewD d) 0) 0 = 74 → repOps d = repTail (viewD d)) := fun h => rep_tail hs h
    have HT0 : Hid (byteAt (atS (viewD d) 0) 0 ≠ 74 → repOps d = []) := fun h => rep_zero h
    clear hs hlen hright
    generalize hcv : viewD d = c at *
    clear hcv
    obtain ⟨cD0, cD1, fD0, fD1⟩ := OD.out.two
    go_wp2_with fail
    have hrd := rread_any [] d (0) _ w2 (HV.out.go K (Ext.refl _ _)) (by have := HN0.out; omega)
    rw [HRD.out (0) (by have := HN0.out; omega), show ((((0) : Nat)) : Int) = 0 by omega] at hrd
    skip
    refine hrd.mono ?_
    rintro e w3 ⟨rfl, hk⟩
    clear hrd
    clear cD0 cD1 fD0 fD1
    replace OD := Lib.hid (OD.out.kept hk)
    replace K := K.trans hk
    clear hk
    have hs64 := HC64.out 0 (by omega)
    have HEN : Hid (entN c = (byteAt (atS c 0) 1).toNat) := rfl
    generalize hh0 : atS c 0 = hd at *
    have HH0 := Lib.hid hh0
    clear hh0
    have x0 : ∀ w' : World, (Instr.index 9 (.string hd) (.int .i64 0)).run Tryd.prog w' = .ok (.int .u8 ((byteAt hd 0).toNat : Int)) w' := fun w' => str_ix w' hd 0 (by omega) _ rfl
    have x1 : ∀ w' : World, (Instr.index 9 (.string hd) (.int .i64 1)).run Tryd.prog w' = .ok (.int .u8 ((byteAt hd 1).toNat : Int)) w' := fun w' => str_ix w' hd 1 (by omega) _ rfl
    have hy1 := (byteAt hd 1).toNat_lt
    by_cases h74 : byteAt hd 0 = 74
    · have HRP := Lib.hid (HT7.out h74)
      have h74' : ((byteAt hd 0).toNat : Int) = 74 := by rw [h74]; rfl
      clear HT7 HT0 h74
      have HZE := Lib.hid (rok_zero c)
      have HEY : Hid (rokB c (entN c) = true → hdrOf (entL c (entN c)) = hd → repTail c = (entL c (entN c)).map wop ++ [opF] ++ [⟨false, ⟨0, zerosB 64⟩⟩] ++ [opF]) := fun h1 h2 => rent_yes h1 (by rw [HCL.out]; exact hn61) (by rw [h2, HH0.out])
      have HENO : Hid (rokB c (entN c) = false ∨ hdrOf (entL c (entN c)) ≠ hd → repTail c = [] ++ [⟨false, ⟨0, zerosB 64⟩⟩] ++ [opF]) := fun h => rent_no (by rw [HCL.out]; exact hn61) (h.imp id fun h e => h (by rw [e, HH0.out]))
      have HRF : Hid (∀ i, i ≤ entN c → rokB c i = false → rokB c (entN c) = false) := fun i hi h => rok_false hi h
      have HRS : Hid (∀ i, rokB c (i + 1) = (rokB c i && entOk c i)) := rok_succ c
      have HRPA : Hid (∀ i, rokB c i = true → 0 < entN c ∧ entN c < 31) := fun i h => ⟨(rok_parts h).1, (rok_parts h).2.1⟩
      have HMEM : Hid (rokB c (entN c) = true → ∀ x ∈ entL c (entN c), (0 ≤ x.at_ ∧ x.at_ < 4294967296) ∧ x.data.size ≤ 100) := fun h x hx => by
        obtain ⟨i, hi, rfl⟩ := entL_mem hx
        obtain ⟨h1, h2, h3⟩ := rok_parts h
        have := le4_lt (atS c (1 + 2 * i))
        refine ⟨⟨by show (0 : Int) ≤ ((le4 (atS c (1 + 2 * i)) : Nat) : Int); omega, by show ((le4 (atS c (1 + 2 * i)) : Nat) : Int) < _; omega⟩, ?_⟩
        show (atS c (2 + 2 * i)).size ≤ 100
        rw [HC64.out (2 + 2 * i) (by omega)]; omega
      rw [HEN.out] at HZE HEY HENO HRF HRPA HMEM
      generalize hnn : (byteAt hd 1).toNat = n at *
      have HNN := Lib.hid hnn
      clear hnn
      have hv1 : IntKind.i64.wrap (n : Int) = (n : Int) := IntWalk.i64_in _ (by omega)
      have hv2 : wrap64 (n : Int) = (n : Int) := IntWalk.wrap64_in _ (by omega)
      generalize hb0 : rokB c 0 = b0 at *
      have HB0 := Lib.hid hb0
      clear hb0
      by_cases h1 : 0 < n
      · have t1 : (n : Int) > 0 := by omega
        by_cases h2 : n < 31
        · have t2 : (n : Int) < 31 := by omega
          rw [decide_eq_true h1, decide_eq_true h2] at HZE
          replace HB0 : Hid (rokB c 0 = true) := by show _ = _; rw [HB0.out, HZE.out]; rfl
          clear HZE h1 h2
          go_wp2_with fail
          clear x0 x1 h74' hv1 hv2 hs64
          go_loopw [5, 7, 8] (fun lv rv iv wq => ∃ (i : Nat) (b : Bool) (A : Option Addr) (cap : Nat), i ≤ n ∧ iv = .int .i64 (i : Int) ∧ rv = .bool b ∧ lv = .slice A i cap ∧ Hid (rokB c i = b) ∧ Hid (wq.ownsRow (w.heap.size + 1) 82 2 (.slice A i cap) (entL c i).length ((entL c i).flatMap wrC)) ∧ Hid (Own wq w.heap.size 29 [.slice A0 n0 c0, .slice B0 m0 e0]) ∧ Kept w wq) (fun _ _ iv _ => n - (intOf iv).toNat)
          case atStart => exact ⟨0, true, none, 0, Nat.zero_le _, rfl, by first | rfl | exact congrArg Value.bool (decide_eq_false (by omega)), rfl, HB0, World.ownsRow_nil _ _ _ _, OD, K⟩
          case round =>
            clear OD K
            obtain ⟨i, b, LA, cap, hi, rfl, rfl, rfl, HB, HL, OD, K⟩ := hrel
            have hkw := K.size
            by_cases hlt : i < n
            · cases b with
              | true =>
                have hpp := HRPA.out i HB.out
                have hn31 := hpp.2
                clear hpp
                have HBS : Hid (rokB c (i + 1) = entOk c i) := by show _ = _; rw [HRS.out, HB.out, Bool.true_and]
                have HLS := Lib.hid (entL_succ c i)
                have HLN := Lib.hid (entL_len c i)
                have HEW : Hid (entWr c i = ⟨(le4 (atS c (1 + 2 * i)) : Nat), atS c (2 + 2 * i)⟩) := rfl
                have HEO : Hid (entOk c i = (decide (61 ≤ le4 (atS c (1 + 2 * i))) && decide (le4 (atS c (1 + 2 * i)) < c.length) && decide (atS c (1 + 2 * i) = dst (le4 (atS c (1 + 2 * i)))))) := rfl
                rw [HCL.out] at HEO
                have i0 : (0 : Int) ≤ (i : Int) := by omega
                have q1 : IntKind.i64.wrap (2 * (i : Int)) = 2 * (i : Int) := IntWalk.i64_in _ (by omega)
                have q2 : IntKind.i64.wrap (2 * (i : Int) + 1) = 2 * (i : Int) + 1 := IntWalk.i64_in _ (by omega)
                have q3 : IntKind.i64.wrap (2 * (i : Int) + 2) = 2 * (i : Int) + 2 := IntWalk.i64_in _ (by omega)
                obtain ⟨cD0, cD1, fD0, fD1⟩ := OD.out.two
                go_wp2_with fail
                have hrd := rread_any [] d (1 + 2 * i) _ wr (HV.out.go K (Ext.refl _ _)) (by have := HN0.out; omega)
                rw [HRD.out (1 + 2 * i) (by have := HN0.out; omega), show ((((1 + 2 * i) : Nat)) : Int) = 2 * (i : Int) + 1 by omega] at hrd
                skip
                refine hrd.mono ?_
                rintro e w4 ⟨rfl, hk⟩
                clear hrd
                clear cD0 cD1 fD0 fD1
                replace OD := Lib.hid (OD.out.kept hk)
                replace HL := Lib.hid (ownsRow_kept HL.out hk)
                replace K := K.trans hk
                clear hk
                have hs64 := HC64.out (1 + 2 * i) (by omega)
                have HA4 : Hid (le4 (atS c (1 + 2 * i)) = (byteAt (atS c (1 + 2 * i)) 0).toNat + 256 * (byteAt (atS c (1 + 2 * i)) 1).toNat + 65536 * (byteAt (atS c (1 + 2 * i)) 2).toNat + 16777216 * (byteAt (atS c (1 + 2 * i)) 3).toNat) := rfl
                have hle := le4_lt (atS c (1 + 2 * i))
                generalize le4 (atS c (1 + 2 * i)) = a at *
                generalize atS c (1 + 2 * i) = s at *
                have y0 := (byteAt s 0).toNat_lt
                have y1 := (byteAt s 1).toNat_lt
                have y2 := (byteAt s 2).toNat_lt
                have y3 := (byteAt s 3).toNat_lt
                have x0 : ∀ w' : World, (Instr.index 9 (.string s) (.int .i64 0)).run Tryd.prog w' = .ok (.int .u8 ((byteAt s 0).toNat : Int)) w' := fun w' => str_ix w' s 0 (by omega) _ rfl
                have x1 : ∀ w' : World, (Instr.index 9 (.string s) (.int .i64 1)).run Tryd.prog w' = .ok (.int .u8 ((byteAt s 1).toNat : Int)) w' := fun w' => str_ix w' s 1 (by omega) _ rfl
                have x2 : ∀ w' : World, (Instr.index 9 (.string s) (.int .i64 2)).run Tryd.prog w' = .ok (.int .u8 ((byteAt s 2).toNat : Int)) w' := fun w' => str_ix w' s 2 (by omega) _ rfl
                have x3 : ∀ w' : World, (Instr.index 9 (.string s) (.int .i64 3)).run Tryd.prog w' = .ok (.int .u8 ((byteAt s 3).toNat : Int)) w' := fun w' => str_ix w' s 3 (by omega) _ rfl
                generalize (byteAt s 0).toNat = z0 at *
                generalize (byteAt s 1).toNat = z1 at *
                generalize (byteAt s 2).toNat = z2 at *
                generalize (byteAt s 3).toNat = z3 at *
                have v0 : IntKind.i64.wrap (z0 : Int) = (z0 : Int) := IntWalk.i64_in _ (by omega)
                have v1 : IntKind.i64.wrap (z1 : Int) = (z1 : Int) := IntWalk.i64_in _ (by omega)
                have v2 : IntKind.i64.wrap (z2 : Int) = (z2 : Int) := IntWalk.i64_in _ (by omega)
                have v3 : IntKind.i64.wrap (z3 : Int) = (z3 : Int) := IntWalk.i64_in _ (by omega)
                have m1 : IntKind.i64.wrap (256 * (z1 : Int)) = 256 * (z1 : Int) := IntWalk.i64_in _ (by omega)
                have m2 : IntKind.i64.wrap (65536 * (z2 : Int)) = 65536 * (z2 : Int) := IntWalk.i64_in _ (by omega)
                have m3 : IntKind.i64.wrap (16777216 * (z3 : Int)) = 16777216 * (z3 : Int) := IntWalk.i64_in _ (by omega)
                have p1 : IntKind.i64.wrap ((z0 : Int) + 256 * (z1 : Int)) = (z0 : Int) + 256 * (z1 : Int) := IntWalk.i64_in _ (by omega)
                have p2 : IntKind.i64.wrap ((z0 : Int) + 256 * (z1 : Int) + 65536 * (z2 : Int)) = (z0 : Int) + 256 * (z1 : Int) + 65536 * (z2 : Int) := IntWalk.i64_in _ (by omega)
                have p3 : IntKind.i64.wrap ((z0 : Int) + 256 * (z1 : Int) + 65536 * (z2 : Int) + 16777216 * (z3 : Int)) = (a : Int) := by
                  rw [IntWalk.i64_in _ (by omega), HA4.out]; omega
                go_upto_region 14 with fail
                go_quiet (fail)
                clear x0 x1 x2 x3 v0 v1 v2 v3 m1 m2 m3 p1 p2 p3 y0 y1 y2 y3 HA4 hs64
                replace OD : Hid (Own (w4.drewN nq) w.heap.size 29 [.slice A0 n0 c0, .slice B0 m0 e0]) := Lib.hid (OD.out.drewN nq)
                replace HL := Lib.hid (ownsRow_kept HL.out ((Kept.refl w4).drewN nq))
                replace K := K.drewN nq
                generalize w4.drewN nq = w5 at *
                by_cases h1 : 60 < a
                · have t1 : (a : Int) > 60 := by omega
                  by_cases h2 : a < n0
                  · have t2 : (a : Int) < (n0 : Int) := by omega
                    obtain ⟨cD0, cD1, fD0, fD1⟩ := OD.out.two
                    go_wp2_with fail
                    refine (rwhere_any a hle _).mono ?_
                    rintro e w6 ⟨rfl, hk⟩
                    clear cD0 cD1 fD0 fD1
                    replace OD := Lib.hid (OD.out.kept hk)
                    replace HL := Lib.hid (ownsRow_kept HL.out hk)
                    replace K := K.trans hk
                    clear hk
                    rcases Bool.eq_false_or_eq_true (s.toList == (dst a).toList) with hq | hq
                    · have HBN : Hid (rokB c (i + 1) = true) := by
                        show _ = _
                        rw [HBS.out, HEO.out, decide_eq_true (by omega : 61 ≤ a), decide_eq_true h2]
                        rw [beq_iff_eq, ByteArray.toList_eq, ByteArray.toList_eq] at hq
                        simp only [Bool.and_self, Bool.true_and, decide_eq_true_eq]
                        exact ByteArray.ext (Array.toList_inj.1 hq)
                      clear HBS HEO
                      obtain ⟨cD0, cD1, fD0, fD1⟩ := OD.out.two
                      go_wp2_with fail
                      have hrd := rread_any [] d (2 + 2 * i) _ w6 (HV.out.go K (Ext.refl _ _)) (by have := HN0.out; omega)
                      rw [HRD.out (2 + 2 * i) (by have := HN0.out; omega), show ((((2 + 2 * i) : Nat)) : Int) = 2 * (i : Int) + 2 by omega] at hrd
                      skip
                      refine hrd.mono ?_
                      rintro e w7 ⟨rfl, hk⟩
                      clear hrd
                      clear cD0 cD1 fD0 fD1
                      replace OD := Lib.hid (OD.out.kept hk)
                      replace HL := Lib.hid (ownsRow_kept HL.out hk)
                      replace K := K.trans hk
                      clear hk
                      generalize atS c (2 + 2 * i) = s2 at *
                      rw [HEW.out] at HLS
                      generalize he2 : entL c (i + 1) = E2 at *
                      have HE2 := Lib.hid he2
                      clear he2
                      generalize entL c i = E1 at *
                      have hz := K.size
                      have hz2 := OD.out.lt
                      go_wp2_with (at_builtin; go_must (
                        refine Tryd.elRw.wpList_app rfl (.tmp 75) (.tmp 83) rfl (w.heap.size + 1) (.slice LA i cap) E1 rfl (HL.out.alloc _) [] _ 1 [(⟨(a : Int), s2⟩ : Wr)] rfl ((Own.new _ 82 ([(⟨(a : Int), s2⟩ : Wr)].flatMap wrC)).row (by simp)) (wrC_one _) (by rw [HLN.out]; unfold maxLen; simp only [List.length_cons, List.length_nil]; omega) (by rw [HLN.out]; simp only [List.length_cons, List.length_nil]; omega) (by simp; omega) ?_
                        intro v9 w9 hap hgr hat
                        have K9 := (K.alloc _).grown hgr (fun k e => by have := (HL.out.lt k e).1; omega)
                        have OD9 := Lib.hid ((OD.out.alloc (.cells ([(⟨(a : Int), s2⟩ : Wr)].flatMap wrC).toArray 82)).grown hgr (fun e => by have h1 := (HL.out.lt _ e.symm).1; omega))
                        obtain ⟨A9, c9, rfl, _, _, _⟩ := own_form (V := []) hap (by simp)
                        rw [← HLS.out] at hap
                        have hln : (E1 ++ [(⟨(a : Int), s2⟩ : Wr)]).length = i + 1 := by rw [List.length_append, HLN.out]; rfl
                        rw [hln]
                        rw [← HLS.out] at hln
                        rw [hln] at hap
                        have HL9 : Hid (w9.ownsRow (w.heap.size + 1) 82 2 (.slice A9 (i + 1) c9) E2.length (E2.flatMap wrC)) := by show World.ownsRow _ _ _ _ _ _ _; rw [hln]; exact hap
                        clear hap hgr hat hln))
                      go_wp2
                      go_roundw
                      case rel => exact ⟨i + 1, true, A9, c9, by omega, by go_num, rfl, rfl, HBN, by rw [HE2.out]; exact HL9, OD9, K9⟩
                      case measure => simp [intOf]; omega
                    · have HBN : Hid (rokB c (i + 1) = false) := by
                        show _ = _
                        rw [HBS.out, HEO.out, decide_eq_true (by omega : 61 ≤ a), decide_eq_true h2]
                        simp only [Bool.and_self, Bool.true_and, decide_eq_false_iff_not]
                        intro e
                        rw [e] at hq
                        simp at hq
                      clear HBS HEO
                      obtain ⟨cD0, cD1, fD0, fD1⟩ := OD.out.two
                      go_wp2_with fail
                      have hrd := rread_any [] d (2 + 2 * i) _ w6 (HV.out.go K (Ext.refl _ _)) (by have := HN0.out; omega)
                      rw [HRD.out (2 + 2 * i) (by have := HN0.out; omega), show ((((2 + 2 * i) : Nat)) : Int) = 2 * (i : Int) + 2 by omega] at hrd
                      skip
                      refine hrd.mono ?_
                      rintro e w7 ⟨rfl, hk⟩
                      clear hrd
                      clear cD0 cD1 fD0 fD1
                      replace OD := Lib.hid (OD.out.kept hk)
                      replace HL := Lib.hid (ownsRow_kept HL.out hk)
                      replace K := K.trans hk
                      clear hk
                      generalize atS c (2 + 2 * i) = s2 at *
                      rw [HEW.out] at HLS
                      generalize he2 : entL c (i + 1) = E2 at *
                      have HE2 := Lib.hid he2
                      clear he2
                      generalize entL c i = E1 at *
                      have hz := K.size
                      have hz2 := OD.out.lt
                      go_wp2_with (at_builtin; go_must (
                        refine Tryd.elRw.wpList_app rfl (.tmp 75) (.tmp 83) rfl (w.heap.size + 1) (.slice LA i cap) E1 rfl (HL.out.alloc _) [] _ 1 [(⟨(a : Int), s2⟩ : Wr)] rfl ((Own.new _ 82 ([(⟨(a : Int), s2⟩ : Wr)].flatMap wrC)).row (by simp)) (wrC_one _) (by rw [HLN.out]; unfold maxLen; simp only [List.length_cons, List.length_nil]; omega) (by rw [HLN.out]; simp only [List.length_cons, List.length_nil]; omega) (by simp; omega) ?_
                        intro v9 w9 hap hgr hat
                        have K9 := (K.alloc _).grown hgr (fun k e => by have := (HL.out.lt k e).1; omega)
                        have OD9 := Lib.hid ((OD.out.alloc (.cells ([(⟨(a : Int), s2⟩ : Wr)].flatMap wrC).toArray 82)).grown hgr (fun e => by have h1 := (HL.out.lt _ e.symm).1; omega))
                        obtain ⟨A9, c9, rfl, _, _, _⟩ := own_form (V := []) hap (by simp)
                        rw [← HLS.out] at hap
                        have hln : (E1 ++ [(⟨(a : Int), s2⟩ : Wr)]).length = i + 1 := by rw [List.length_append, HLN.out]; rfl
                        rw [hln]
                        rw [← HLS.out] at hln
                        rw [hln] at hap
                        have HL9 : Hid (w9.ownsRow (w.heap.size + 1) 82 2 (.slice A9 (i + 1) c9) E2.length (E2.flatMap wrC)) := by show World.ownsRow _ _ _ _ _ _ _; rw [hln]; exact hap
                        clear hap hgr hat hln))
                      go_wp2
                      go_roundw
                      case rel => exact ⟨i + 1, false, A9, c9, by omega, by go_num, rfl, rfl, HBN, by rw [HE2.out]; exact HL9, OD9, K9⟩
                      case measure => simp [intOf]; omega
                  · have t2 : ¬ (a : Int) < (n0 : Int) := by omega
                    have HBN : Hid (rokB c (i + 1) = false) := by show _ = _; rw [HBS.out, HEO.out, decide_eq_false h2, Bool.and_false, Bool.false_and]
                    clear HBS HEO
                    obtain ⟨cD0, cD1, fD0, fD1⟩ := OD.out.two
                    go_wp2_with fail
                    have hrd := rread_any [] d (2 + 2 * i) _ w5 (HV.out.go K (Ext.refl _ _)) (by have := HN0.out; omega)
                    rw [HRD.out (2 + 2 * i) (by have := HN0.out; omega), show ((((2 + 2 * i) : Nat)) : Int) = 2 * (i : Int) + 2 by omega] at hrd
                    skip
                    refine hrd.mono ?_
                    rintro e w6 ⟨rfl, hk⟩
                    clear hrd
                    clear cD0 cD1 fD0 fD1
                    replace OD := Lib.hid (OD.out.kept hk)
                    replace HL := Lib.hid (ownsRow_kept HL.out hk)
                    replace K := K.trans hk
                    clear hk
                    generalize atS c (2 + 2 * i) = s2 at *
                    rw [HEW.out] at HLS
                    generalize he2 : entL c (i + 1) = E2 at *
                    have HE2 := Lib.hid he2
                    clear he2
                    generalize entL c i = E1 at *
                    have hz := K.size
                    have hz2 := OD.out.lt
                    go_wp2_with (at_builtin; go_must (
                      refine Tryd.elRw.wpList_app rfl (.tmp 75) (.tmp 83) rfl (w.heap.size + 1) (.slice LA i cap) E1 rfl (HL.out.alloc _) [] _ 1 [(⟨(a : Int), s2⟩ : Wr)] rfl ((Own.new _ 82 ([(⟨(a : Int), s2⟩ : Wr)].flatMap wrC)).row (by simp)) (wrC_one _) (by rw [HLN.out]; unfold maxLen; simp only [List.length_cons, List.length_nil]; omega) (by rw [HLN.out]; simp only [List.length_cons, List.length_nil]; omega) (by simp; omega) ?_
                      intro v9 w9 hap hgr hat
                      have K9 := (K.alloc _).grown hgr (fun k e => by have := (HL.out.lt k e).1; omega)
                      have OD9 := Lib.hid ((OD.out.alloc (.cells ([(⟨(a : Int), s2⟩ : Wr)].flatMap wrC).toArray 82)).grown hgr (fun e => by have h1 := (HL.out.lt _ e.symm).1; omega))
                      obtain ⟨A9, c9, rfl, _, _, _⟩ := own_form (V := []) hap (by simp)
                      rw [← HLS.out] at hap
                      have hln : (E1 ++ [(⟨(a : Int), s2⟩ : Wr)]).length = i + 1 := by rw [List.length_append, HLN.out]; rfl
                      rw [hln]
                      rw [← HLS.out] at hln
                      rw [hln] at hap
                      have HL9 : Hid (w9.ownsRow (w.heap.size + 1) 82 2 (.slice A9 (i + 1) c9) E2.length (E2.flatMap wrC)) := by show World.ownsRow _ _ _ _ _ _ _; rw [hln]; exact hap
                      clear hap hgr hat hln))
                    go_wp2
                    go_roundw
                    case rel => exact ⟨i + 1, false, A9, c9, by omega, by go_num, rfl, rfl, HBN, by rw [HE2.out]; exact HL9, OD9, K9⟩
                    case measure => simp [intOf]; omega
                · have t1 : ¬ (a : Int) > 60 := by omega
                  have HBN : Hid (rokB c (i + 1) = false) := by show _ = _; rw [HBS.out, HEO.out, decide_eq_false (by omega : ¬ 61 ≤ a), Bool.false_and, Bool.false_and]
                  clear HBS HEO
                  obtain ⟨cD0, cD1, fD0, fD1⟩ := OD.out.two
                  go_wp2_with fail
                  have hrd := rread_any [] d (2 + 2 * i) _ w5 (HV.out.go K (Ext.refl _ _)) (by have := HN0.out; omega)
                  rw [HRD.out (2 + 2 * i) (by have := HN0.out; omega), show ((((2 + 2 * i) : Nat)) : Int) = 2 * (i : Int) + 2 by omega] at hrd
                  skip
                  refine hrd.mono ?_
                  rintro e w6 ⟨rfl, hk⟩
                  clear hrd
                  clear cD0 cD1 fD0 fD1
                  replace OD := Lib.hid (OD.out.kept hk)
                  replace HL := Lib.hid (ownsRow_kept HL.out hk)
                  replace K := K.trans hk
                  clear hk
                  generalize atS c (2 + 2 * i) = s2 at *
                  rw [HEW.out] at HLS
                  generalize he2 : entL c (i + 1) = E2 at *
                  have HE2 := Lib.hid he2
                  clear he2
                  generalize entL c i = E1 at *
                  have hz := K.size
                  have hz2 := OD.out.lt
                  go_wp2_with (at_builtin; go_must (
                    refine Tryd.elRw.wpList_app rfl (.tmp 75) (.tmp 83) rfl (w.heap.size + 1) (.slice LA i cap) E1 rfl (HL.out.alloc _) [] _ 1 [(⟨(a : Int), s2⟩ : Wr)] rfl ((Own.new _ 82 ([(⟨(a : Int), s2⟩ : Wr)].flatMap wrC)).row (by simp)) (wrC_one _) (by rw [HLN.out]; unfold maxLen; simp only [List.length_cons, List.length_nil]; omega) (by rw [HLN.out]; simp only [List.length_cons, List.length_nil]; omega) (by simp; omega) ?_
                    intro v9 w9 hap hgr hat
                    have K9 := (K.alloc _).grown hgr (fun k e => by have := (HL.out.lt k e).1; omega)
                    have OD9 := Lib.hid ((OD.out.alloc (.cells ([(⟨(a : Int), s2⟩ : Wr)].flatMap wrC).toArray 82)).grown hgr (fun e => by have h1 := (HL.out.lt _ e.symm).1; omega))
                    obtain ⟨A9, c9, rfl, _, _, _⟩ := own_form (V := []) hap (by simp)
                    rw [← HLS.out] at hap
                    have hln : (E1 ++ [(⟨(a : Int), s2⟩ : Wr)]).length = i + 1 := by rw [List.length_append, HLN.out]; rfl
                    rw [hln]
                    rw [← HLS.out] at hln
                    rw [hln] at hap
                    have HL9 : Hid (w9.ownsRow (w.heap.size + 1) 82 2 (.slice A9 (i + 1) c9) E2.length (E2.flatMap wrC)) := by show World.ownsRow _ _ _ _ _ _ _; rw [hln]; exact hap
                    clear hap hgr hat hln))
                  go_wp2
                  go_roundw
                  case rel => exact ⟨i + 1, false, A9, c9, by omega, by go_num, rfl, rfl, HBN, by rw [HE2.out]; exact HL9, OD9, K9⟩
                  case measure => simp [intOf]; omega
              | false =>
                have HRP2 := Lib.hid (HRP.out.trans (HENO.out (.inl (HRF.out i hi HB.out))))
                clear HB HENO HEY HRF HMEM HRPA HRP
                have HO := Lib.hid (ROps.nil w wr)
                have HB9 : Hid (([] : List WOp).length ≤ 99) := by show _ ≤ _; simp
                go_wp2_with fail
                refine (rsector_any wr [] _ wr (Kept.refl _) (World.ownsRow_nil _ _ _ _) (by simp)).mono ?_
                rintro e w4 ⟨rfl, hk⟩
                replace HO := Lib.hid (HO.out.kept hk)
                replace K := K.trans hk
                clear hk
                rw [pad_nil]
                go_wp2_with fail
                refine (rwrite_any w ([] : List WOp) 0 (zerosB 64) _ w4 K HO.out (by simp)).mono ?_
                rintro e w5 ⟨vt1, rfl, hr, hk⟩
                clear K
                have K := hk
                clear hk HO
                generalize hl7 : ([] : List WOp) ++ [⟨false, ⟨0, zerosB 64⟩⟩] = L7 at *
                have hb7 : L7.length ≤ 100 := by rw [← hl7, List.length_append]; have hbb : (([] : List WOp) : List WOp).length ≤ 99 := HB9.out; simp only [List.length_cons, List.length_nil]; omega
                have HL7 := Lib.hid hl7
                clear hl7
                have HO := Lib.hid hr
                clear hr
                obtain ⟨At1, ct1, rfl⟩ := HO.out.form
                go_wp2_with fail
                refine (rflush_any w L7 _ w5 K HO.out (by omega)).mono ?_
                rintro e w6 ⟨vt2, rfl, hr, hk⟩
                clear K
                have K := hk
                clear hk HO
                generalize hl8 : L7 ++ [opF] = L8 at *
                clear hl8
                have HO := Lib.hid hr
                clear hr
                obtain ⟨At2, ct2, rfl⟩ := HO.out.form
                go_wp2
                go_ret
                exact ⟨_, rfl, by rw [HRP2.out]; exact HO.out, K⟩
            · obtain rfl : i = n := by omega
              cases b with
              | false =>
                have HRP2 := Lib.hid (HRP.out.trans (HENO.out (.inl (HRF.out i hi HB.out))))
                clear HB HENO HEY HRF HMEM HRPA HRP
                have HO := Lib.hid (ROps.nil w wr)
                have HB9 : Hid (([] : List WOp).length ≤ 99) := by show _ ≤ _; simp
                go_wp2_with fail
                refine (rsector_any wr [] _ wr (Kept.refl _) (World.ownsRow_nil _ _ _ _) (by simp)).mono ?_
                rintro e w4 ⟨rfl, hk⟩
                replace HO := Lib.hid (HO.out.kept hk)
                replace K := K.trans hk
                clear hk
                rw [pad_nil]
                go_wp2_with fail
                refine (rwrite_any w ([] : List WOp) 0 (zerosB 64) _ w4 K HO.out (by simp)).mono ?_
                rintro e w5 ⟨vt1, rfl, hr, hk⟩
                clear K
                have K := hk
                clear hk HO
                generalize hl7 : ([] : List WOp) ++ [⟨false, ⟨0, zerosB 64⟩⟩] = L7 at *
                have hb7 : L7.length ≤ 100 := by rw [← hl7, List.length_append]; have hbb : (([] : List WOp) : List WOp).length ≤ 99 := HB9.out; simp only [List.length_cons, List.length_nil]; omega
                have HL7 := Lib.hid hl7
                clear hl7
                have HO := Lib.hid hr
                clear hr
                obtain ⟨At1, ct1, rfl⟩ := HO.out.form
                go_wp2_with fail
                refine (rflush_any w L7 _ w5 K HO.out (by omega)).mono ?_
                rintro e w6 ⟨vt2, rfl, hr, hk⟩
                clear K
                have K := hk
                clear hk HO
                generalize hl8 : L7 ++ [opF] = L8 at *
                clear hl8
                have HO := Lib.hid hr
                clear hr
                obtain ⟨At2, ct2, rfl⟩ := HO.out.form
                go_wp2
                go_ret
                exact ⟨_, rfl, by rw [HRP2.out]; exact HO.out, K⟩
              | true =>
                have hn31 := (HRPA.out i HB.out).2
                have hm := HMEM.out HB.out
                have HMM := Lib.hid hm
                clear hm
                have HLN := Lib.hid (entL_len c i)
                replace HEY := Lib.hid (HEY.out HB.out)
                replace HENO : Hid (hdrOf (entL c i) ≠ hd → repTail c = [] ++ [⟨false, ⟨0, zerosB 64⟩⟩] ++ [opF]) := fun h => HENO.out (.inr h)
                clear HB HRF HRPA HMEM HRS
                generalize entL c i = E1 at *
                have HW1 : Hid (WrsAt [] wr (.slice LA i cap) E1) := by
                  obtain ⟨A9, c9, e9, h91, h92, h93⟩ := own_form (V := []) HL.out (by simp)
                  injection e9 with e1 e2 e3
                  subst e1 e3
                  exact ⟨_, _, by rw [HLN.out], by rw [HLN.out]; rw [HLN.out] at h91; exact h91, h92, h93⟩
                obtain ⟨cD0, cD1, fD0, fD1⟩ := OD.out.two
                go_wp2_with fail
                refine (rheader_any E1 _ _ HW1.out (fun x hx => (HMM.out x hx).1) (fun x hx => (HMM.out x hx).2) (by rw [HLN.out]; omega)).mono ?_
                rintro e w4 ⟨rfl, hk⟩
                clear cD0 cD1 fD0 fD1
                replace OD := Lib.hid (OD.out.kept hk)
                replace HW1 := Lib.hid (HW1.out.go hk (Ext.refl _ _))
                replace K := K.trans hk
                clear hk
                generalize hho : hdrOf E1 = ho at *
                clear hho
                rcases Bool.eq_false_or_eq_true (ho.toList == hd.toList) with hq | hq
                · have HRP2 : Hid (repOps d = E1.map wop ++ [opF] ++ [⟨false, ⟨0, zerosB 64⟩⟩] ++ [opF]) := by
                    show _ = _
                    rw [HRP.out]
                    refine HEY.out ?_
                    rw [beq_iff_eq, ByteArray.toList_eq, ByteArray.toList_eq] at hq
                    exact ByteArray.ext (Array.toList_inj.1 hq)
                  clear HRP HEY HENO
                  obtain ⟨_, _, e9, _, _, hwr9⟩ := HW1.out
                  have HWR : Hid (Row [] w4 LA (wrs E1)) := by
                    cases e9; exact hwr9
                  clear hwr9 e9
                  have HP0 : Hid ((E1.take 0).map wop = []) := rfl
                  have HPS : Hid (∀ k (h : k < E1.length), (E1.take k).map wop ++ [⟨false, E1[k]⟩] = (E1.take (k + 1)).map wop) := fun k h => by rw [List.take_succ_eq_append_getElem h, List.map_append]; rfl
                  have HPE : Hid (E1.map wop = (E1.take i).map wop) := by show _ = _; rw [List.take_of_length_le (by rw [HLN.out]; exact Nat.le_refl _)]
                  rw [HPE.out] at HRP2
                  have HPL : Hid (∀ k, ((E1.take k).map wop).length ≤ 30) := fun k => by rw [List.length_map, List.length_take, HLN.out]; omega
                  obtain ⟨G, hG⟩ : ∃ G : Nat → List WOp, ∀ k, (E1.take k).map wop = G k := ⟨_, fun _ => rfl⟩
                  simp only [hG] at HP0 HPS HPE HPL HRP2
                  clear hG HPE
                  obtain ⟨wX, hwX⟩ : ∃ x, x = w4 := ⟨_, rfl⟩
                  have KX : Kept wX w4 := by rw [hwX]; exact Kept.refl _
                  have HKX : Hid (Kept w wX) := by rw [hwX]; exact K
                  replace HWR : Hid (Row [] wX LA (wrs E1)) := by rw [hwX]; exact HWR.out
                  clear hwX
                  go_wp2_with fail
                  go_loopw [4, 11] (fun tv iv wq => ∃ (k : Nat), k ≤ i ∧ iv = .int .i64 (k : Int) ∧ Hid (ROps wX wq tv (G k)) ∧ Kept wX wq) (fun _ iv _ => i - (intOf iv).toNat)
                  case atStart => exact ⟨0, Nat.zero_le _, rfl, by rw [HP0.out]; exact ROps.nil _ _, KX⟩
                  case round =>
                    clear KX
                    obtain ⟨k, hk, rfl, HO, K9⟩ := hrel
                    obtain ⟨A0', c0', rfl⟩ := HO.out.form
                    by_cases hlk : k < i
                    · have hlk2 : k < E1.length := by rw [HLN.out]; exact hlk
                      have HES := Lib.hid (HPS.out k hlk2)
                      have HEL := HPL.out k
                      obtain ⟨b, o, rfl, hb, _, hcs⟩ := HWR.out (by rw [wrs_length]; omega)
                      have HC1 := Lib.hid (hcs _ _ (wrs_at hlk2).1)
                      have HC2 := Lib.hid (hcs _ _ (wrs_at hlk2).2)
                      clear hcs
                      generalize E1[k] = x at *
                      obtain ⟨xa, xd⟩ := x
                      dsimp only at HC1 HC2 HES
                      have j0 : (0 : Int) ≤ (k : Int) := by omega
                      have j1 : (k : Int) < (i : Int) := by omega
                      clear hlk2
                      go_upto_region 21 with fail
                      have C1 : ∀ W', Kept wX W' → W'.cell? ⟨b, o + k * 2, none⟩ = some (.int .i64 xa) := fun W' hk => (hk.cell (p := ⟨b, o + k * 2, none⟩) hb).trans HC1.out
                      have C2 : ∀ W', Kept wX W' → W'.cell? ⟨b, o + k * 2 + 1, none⟩ = some (.string xd) := fun W' hk => (hk.cell (p := ⟨b, o + k * 2 + 1, none⟩) hb).trans HC2.out
                      refine wp_region_Z (S := fun W' => Kept wX W') (Z := []) (by kernel_rfl) (K9.drew) (fun hHeld => ?_)
                      have kr := K9.drew
                      replace HO := Lib.hid (HO.out.kept (Kept.refl _).drew)
                      clear K9
                      generalize wr.drew = w5 at *
                      refine wpAnyZ_take (i := 0) (oi := { dst := some 98, op := Op.move (Operand.tmp 4), type := 45, pos := "ref.go:97", after := #[], guard := none }) (v := ?_) rfl (by kernel_rfl) (fun _ _ _ h => h) (Or.inl ⟨by rfl, ?_⟩) (by assumption) ?_
                      rotate_left
                      · (intro wz hSw; (try dsimp only at hSw); go_simp; (try with_reducible rfl))
                      (try simp only [Act.put, List.setIfInBounds_toArray, List.set_cons_zero, List.set_cons_succ])
                      refine wpAnyZ_take (i := 1) (oi := { dst := some 99, op := Op.move (Operand.tmp 5), type := 27, pos := "ref.go:97", after := #[], guard := none }) (v := ?_) rfl (by kernel_rfl) (fun _ _ _ h => h) (Or.inl ⟨by rfl, ?_⟩) (by assumption) ?_
                      rotate_left
                      · (intro wz hSw; (try dsimp only at hSw); go_simp; (try with_reducible rfl))
                      (try simp only [Act.put, List.setIfInBounds_toArray, List.set_cons_zero, List.set_cons_succ])
                      refine wpAnyZ_take (i := 2) (oi := { dst := some 100, op := Op.move (Operand.tmp 11), type := 3, pos := "ref.go:97", after := #[], guard := none }) (v := ?_) rfl (by kernel_rfl) (fun _ _ _ h => h) (Or.inl ⟨by rfl, ?_⟩) (by assumption) ?_
                      rotate_left
                      · (intro wz hSw; (try dsimp only at hSw); go_simp; (try with_reducible rfl))
                      (try simp only [Act.put, List.setIfInBounds_toArray, List.set_cons_zero, List.set_cons_succ])
                      refine wpAnyZ_take (i := 3) (oi := { dst := some 101, op := Op.indexAddr 27 (Operand.tmp 99) (Operand.tmp 100), type := 0, pos := "ref.go:97", after := #[{ on := 1, ground := Ground.data }, { on := 2, ground := Ground.data }], guard := none }) (v := ?_) rfl (by kernel_rfl) (fun _ _ _ h => h) (Or.inl ⟨by rfl, ?_⟩) (by assumption) ?_
                      rotate_left
                      · (intro wz hSw; (try dsimp only at hSw); go_simp; (try with_reducible rfl))
                      (try simp only [Act.put, List.setIfInBounds_toArray, List.set_cons_zero, List.set_cons_succ])
                      refine wpAnyZ_take (i := 4) (oi := { dst := some 102, op := Op.fieldAddr 82 (Operand.tmp 101) 0, type := 0, pos := "ref.go:97", after := #[{ on := 3, ground := Ground.data }], guard := none }) (v := ?_) rfl (by kernel_rfl) (fun _ _ _ h => h) (Or.inl ⟨by rfl, ?_⟩) (by assumption) ?_
                      rotate_left
                      · (intro wz hSw; (try dsimp only at hSw); go_simp; (try with_reducible rfl))
                      (try simp only [Act.put, List.setIfInBounds_toArray, List.set_cons_zero, List.set_cons_succ])
                      refine wpAnyZ_take (i := 5) (oi := { dst := some 103, op := Op.load 3 (Operand.tmp 102), type := 3, pos := "ref.go:97", after := #[{ on := 4, ground := Ground.data }], guard := none }) (v := ?_) rfl (by kernel_rfl) (fun _ _ _ h => h) (Or.inl ⟨by rfl, ?_⟩) (by assumption) ?_
                      rotate_left
                      · (intro wz hSw; (try dsimp only at hSw); go_simp; (try with_reducible rfl))
                      (try simp only [Act.put, List.setIfInBounds_toArray, List.set_cons_zero, List.set_cons_succ])
                      refine wpAnyZ_take (i := 6) (oi := { dst := some 104, op := Op.move (Operand.tmp 5), type := 27, pos := "ref.go:97", after := #[], guard := none }) (v := ?_) rfl (by kernel_rfl) (fun _ _ _ h => h) (Or.inl ⟨by rfl, ?_⟩) (by assumption) ?_
                      rotate_left
                      · (intro wz hSw; (try dsimp only at hSw); go_simp; (try with_reducible rfl))
                      (try simp only [Act.put, List.setIfInBounds_toArray, List.set_cons_zero, List.set_cons_succ])
                      refine wpAnyZ_take (i := 7) (oi := { dst := some 105, op := Op.move (Operand.tmp 11), type := 3, pos := "ref.go:97", after := #[], guard := none }) (v := ?_) rfl (by kernel_rfl) (fun _ _ _ h => h) (Or.inl ⟨by rfl, ?_⟩) (by assumption) ?_
                      rotate_left
                      · (intro wz hSw; (try dsimp only at hSw); go_simp; (try with_reducible rfl))
                      (try simp only [Act.put, List.setIfInBounds_toArray, List.set_cons_zero, List.set_cons_succ])
                      refine wpAnyZ_take (i := 8) (oi := { dst := some 106, op := Op.indexAddr 27 (Operand.tmp 104) (Operand.tmp 105), type := 0, pos := "ref.go:97", after := #[{ on := 6, ground := Ground.data }, { on := 7, ground := Ground.data }], guard := none }) (v := ?_) rfl (by kernel_rfl) (fun _ _ _ h => h) (Or.inl ⟨by rfl, ?_⟩) (by assumption) ?_
                      rotate_left
                      · (intro wz hSw; (try dsimp only at hSw); go_simp; (try with_reducible rfl))
                      (try simp only [Act.put, List.setIfInBounds_toArray, List.set_cons_zero, List.set_cons_succ])
                      refine wpAnyZ_take (i := 9) (oi := { dst := some 107, op := Op.fieldAddr 82 (Operand.tmp 106) 1, type := 0, pos := "ref.go:97", after := #[{ on := 8, ground := Ground.data }], guard := none }) (v := ?_) rfl (by kernel_rfl) (fun _ _ _ h => h) (Or.inl ⟨by rfl, ?_⟩) (by assumption) ?_
                      rotate_left
                      · (intro wz hSw; (try dsimp only at hSw); go_simp; (try with_reducible rfl))
                      (try simp only [Act.put, List.setIfInBounds_toArray, List.set_cons_zero, List.set_cons_succ])
                      refine wpAnyZ_take (i := 10) (oi := { dst := some 108, op := Op.load 9 (Operand.tmp 107), type := 9, pos := "ref.go:97", after := #[{ on := 9, ground := Ground.data }], guard := none }) (v := ?_) rfl (by kernel_rfl) (fun _ _ _ h => h) (Or.inl ⟨by rfl, ?_⟩) (by assumption) ?_
                      rotate_left
                      · (intro wz hSw; (try dsimp only at hSw); go_simp; (try with_reducible rfl))
                      (try simp only [Act.put, List.setIfInBounds_toArray, List.set_cons_zero, List.set_cons_succ])
                      refine wpAnyZ_ready (rs := [11]) (by kernel_rfl) (by simp) ?_
                      refine AllReadyZ.cons (o := { dst := some 109, op := Op.call { callee := Callee.value (Operand.func 56), args := #[Operand.tmp 98, Operand.tmp 103, Operand.tmp 108], argTypes := #[45, 3, 9] }, type := 45, pos := "ref.go:97", after := #[{ on := 0, ground := Ground.data }, { on := 5, ground := Ground.data }, { on := 10, ground := Ground.data }], guard := none }) rfl (fun KK hKK => ?_) AllReadyZ.nil
                      go_simp
                      refine (rwrite_any wX (G k) xa xd _ w5 kr HO.out (by omega)).mono ?_
                      rintro e w6 ⟨v2, rfl, hr2, hk⟩
                      clear hHeld
                      clear kr
                      have kr := hk
                      clear HO
                      rw [HES.out] at hr2
                      have HO9 := Lib.hid hr2
                      clear hr2
                      obtain ⟨A2, c2, rfl⟩ := HO9.out.form
                      clear hk
                      go_simp
                      refine hKK.out _ _ ?_ (fun hHeld => ?_)
                      · exact kr
                      clear hKK KK
                      (try simp only [Act.put, List.setIfInBounds_toArray, List.set_cons_zero, List.set_cons_succ])
                      refine wpAnyZ_take (i := 12) (oi := { dst := some 4, op := Op.assign (Operand.tmp 109), type := 45, pos := "ref.go:97", after := #[{ on := 11, ground := Ground.data }, { on := 11, ground := Ground.chain }, { on := 0, ground := Ground.phase }, { on := 1, ground := Ground.phase }, { on := 2, ground := Ground.phase }, { on := 3, ground := Ground.phase }, { on := 4, ground := Ground.phase }, { on := 5, ground := Ground.phase }, { on := 6, ground := Ground.phase }, { on := 7, ground := Ground.phase }, { on := 8, ground := Ground.phase }, { on := 9, ground := Ground.phase }, { on := 10, ground := Ground.phase }, { on := 11, ground := Ground.phase }], guard := none }) (v := ?_) rfl (by kernel_rfl) (fun _ _ _ h => h) (Or.inl ⟨by rfl, ?_⟩) (by assumption) ?_
                      rotate_left
                      · (intro wz hSw; (try dsimp only at hSw); go_simp; (try with_reducible rfl))
                      (try simp only [Act.put, List.setIfInBounds_toArray, List.set_cons_zero, List.set_cons_succ])
                      refine wpAnyZ_done (by kernel_rfl) ?_ _
                      clear C1 C2 hHeld
                      have K9 := kr
                      clear kr
                      go_wp2
                      go_roundw
                      case rel => exact ⟨k + 1, by omega, by go_num, HO9, K9⟩
                      case measure => simp [intOf]; omega
                    · obtain rfl : k = i := by omega
                      have HEL := HPL.out k
                      go_wp2_with fail
                      refine (rflush_any wX (G k) _ wr K9 HO.out (by omega)).mono ?_
                      rintro e w5 ⟨vf, rfl, hr, hk'⟩
                      clear K9
                      have K9 := hk'
                      clear hk' HO
                      generalize hl6 : G k ++ [opF] = L6 at *
                      have hb6 : L6.length ≤ 31 := by rw [← hl6, List.length_append]; simp only [List.length_cons, List.length_nil]; omega
                      clear hl6
                      have HO := Lib.hid hr
                      clear hr
                      obtain ⟨Af, cf, rfl⟩ := HO.out.form
                      have HB9 : Hid (L6.length ≤ 99) := by show _ ≤ _; omega
                      go_wp2_with fail
                      refine (rsector_any w5 [] _ w5 (Kept.refl _) (World.ownsRow_nil _ _ _ _) (by simp)).mono ?_
                      rintro e w6 ⟨rfl, hk⟩
                      replace HO := Lib.hid (HO.out.kept hk)
                      replace K9 := K9.trans hk
                      clear hk
                      rw [pad_nil]
                      go_wp2_with fail
                      refine (rwrite_any wX L6 0 (zerosB 64) _ w6 K9 HO.out (by omega)).mono ?_
                      rintro e w7 ⟨vt1, rfl, hr, hk⟩
                      clear K9
                      have K9 := hk
                      clear hk HO
                      generalize hl7 : L6 ++ [⟨false, ⟨0, zerosB 64⟩⟩] = L7 at *
                      have hb7 : L7.length ≤ 100 := by rw [← hl7, List.length_append]; have hbb : (L6 : List WOp).length ≤ 99 := HB9.out; simp only [List.length_cons, List.length_nil]; omega
                      have HL7 := Lib.hid hl7
                      clear hl7
                      have HO := Lib.hid hr
                      clear hr
                      obtain ⟨At1, ct1, rfl⟩ := HO.out.form
                      go_wp2_with fail
                      refine (rflush_any wX L7 _ w7 K9 HO.out (by omega)).mono ?_
                      rintro e w8 ⟨vt2, rfl, hr, hk⟩
                      clear K9
                      have K9 := hk
                      clear hk HO
                      generalize hl8 : L7 ++ [opF] = L8 at *
                      clear hl8
                      have HO := Lib.hid hr
                      clear hr
                      obtain ⟨At2, ct2, rfl⟩ := HO.out.form
                      go_wp2
                      go_ret
                      refine ⟨_, rfl, ?_, HKX.out.trans K9⟩
                      rw [HRP2.out]
                      exact HO.out.low HKX.out.size
                · have HRP2 := Lib.hid (HRP.out.trans (HENO.out (fun e => by rw [e] at hq; simp at hq)))
                  clear HRP HEY HENO
                  have HO := Lib.hid (ROps.nil w w4)
                  have HB9 : Hid (([] : List WOp).length ≤ 99) := by show _ ≤ _; simp
                  go_wp2_with fail
                  refine (rsector_any w4 [] _ w4 (Kept.refl _) (World.ownsRow_nil _ _ _ _) (by simp)).mono ?_
                  rintro e w5 ⟨rfl, hk⟩
                  replace HO := Lib.hid (HO.out.kept hk)
                  replace K := K.trans hk
                  clear hk
                  rw [pad_nil]
                  go_wp2_with fail
                  refine (rwrite_any w ([] : List WOp) 0 (zerosB 64) _ w5 K HO.out (by simp)).mono ?_
                  rintro e w6 ⟨vt1, rfl, hr, hk⟩
                  clear K
                  have K := hk
                  clear hk HO
                  generalize hl7 : ([] : List WOp) ++ [⟨false, ⟨0, zerosB 64⟩⟩] = L7 at *
                  have hb7 : L7.length ≤ 100 := by rw [← hl7, List.length_append]; have hbb : (([] : List WOp) : List WOp).length ≤ 99 := HB9.out; simp only [List.length_cons, List.length_nil]; omega
                  have HL7 := Lib.hid hl7
                  clear hl7
                  have HO := Lib.hid hr
                  clear hr
                  obtain ⟨At1, ct1, rfl⟩ := HO.out.form
                  go_wp2_with fail
                  refine (rflush_any w L7 _ w6 K HO.out (by omega)).mono ?_
                  rintro e w7 ⟨vt2, rfl, hr, hk⟩
                  clear K
                  have K := hk
                  clear hk HO
                  generalize hl8 : L7 ++ [opF] = L8 at *
                  clear hl8
                  have HO := Lib.hid hr
                  clear hr
                  obtain ⟨At2, ct2, rfl⟩ := HO.out.form
                  go_wp2
                  go_ret
                  exact ⟨_, rfl, by rw [HRP2.out]; exact HO.out, K⟩
        · have t2 : ¬ (n : Int) < 31 := by omega
          rw [decide_eq_true h1, decide_eq_false h2] at HZE
          replace HB0 : Hid (rokB c 0 = false) := by show _ = _; rw [HB0.out, HZE.out]; rfl
          clear HZE h1 h2
          go_wp2_with fail
          clear x0 x1 h74' hv1 hv2 hs64
          go_loopw [5, 7, 8] (fun lv rv iv wq => ∃ (i : Nat) (b : Bool) (A : Option Addr) (cap : Nat), i ≤ n ∧ iv = .int .i64 (i : Int) ∧ rv = .bool b ∧ lv = .slice A i cap ∧ Hid (rokB c i = b) ∧ Hid (wq.ownsRow (w.heap.size + 1) 82 2 (.slice A i cap) (entL c i).length ((entL c i).flatMap wrC)) ∧ Hid (Own wq w.heap.size 29 [.slice A0 n0 c0, .slice B0 m0 e0]) ∧ Kept w wq) (fun _ _ iv _ => n - (intOf iv).toNat)
          case atStart => exact ⟨0, false, none, 0, Nat.zero_le _, rfl, by first | rfl | exact congrArg Value.bool (decide_eq_false (by omega)), rfl, HB0, World.ownsRow_nil _ _ _ _, OD, K⟩
          case round =>
            clear OD K
            obtain ⟨i, b, LA, cap, hi, rfl, rfl, rfl, HB, HL, OD, K⟩ := hrel
            have hkw := K.size
            by_cases hlt : i < n
            · cases b with
              | true =>
                exfalso
                have h9 := HRPA.out i HB.out
                omega
              | false =>
                have HRP2 := Lib.hid (HRP.out.trans (HENO.out (.inl (HRF.out i hi HB.out))))
                clear HB HENO HEY HRF HMEM HRPA HRP
                have HO := Lib.hid (ROps.nil w wr)
                have HB9 : Hid (([] : List WOp).length ≤ 99) := by show _ ≤ _; simp
                go_wp2_with fail
                refine (rsector_any wr [] _ wr (Kept.refl _) (World.ownsRow_nil _ _ _ _) (by simp)).mono ?_
                rintro e w4 ⟨rfl, hk⟩
                replace HO := Lib.hid (HO.out.kept hk)
                replace K := K.trans hk
                clear hk
                rw [pad_nil]
                go_wp2_with fail
                refine (rwrite_any w ([] : List WOp) 0 (zerosB 64) _ w4 K HO.out (by simp)).mono ?_
                rintro e w5 ⟨vt1, rfl, hr, hk⟩
                clear K
                have K := hk
                clear hk HO
                generalize hl7 : ([] : List WOp) ++ [⟨false, ⟨0, zerosB 64⟩⟩] = L7 at *
                have hb7 : L7.length ≤ 100 := by rw [← hl7, List.length_append]; have hbb : (([] : List WOp) : List WOp).length ≤ 99 := HB9.out; simp only [List.length_cons, List.length_nil]; omega
                have HL7 := Lib.hid hl7
                clear hl7
                have HO := Lib.hid hr
                clear hr
                obtain ⟨At1, ct1, rfl⟩ := HO.out.form
                go_wp2_with fail
                refine (rflush_any w L7 _ w5 K HO.out (by omega)).mono ?_
                rintro e w6 ⟨vt2, rfl, hr, hk⟩
                clear K
                have K := hk
                clear hk HO
                generalize hl8 : L7 ++ [opF] = L8 at *
                clear hl8
                have HO := Lib.hid hr
                clear hr
                obtain ⟨At2, ct2, rfl⟩ := HO.out.form
                go_wp2
                go_ret
                exact ⟨_, rfl, by rw [HRP2.out]; exact HO.out, K⟩
            · obtain rfl : i = n := by omega
              cases b with
              | true =>
                exfalso
                have h9 := HRPA.out i HB.out
                omega
              | false =>
                have HRP2 := Lib.hid (HRP.out.trans (HENO.out (.inl (HRF.out i hi HB.out))))
                clear HB HENO HEY HRF HMEM HRPA HRP
                have HO := Lib.hid (ROps.nil w wr)
                have HB9 : Hid (([] : List WOp).length ≤ 99) := by show _ ≤ _; simp
                go_wp2_with fail
                refine (rsector_any wr [] _ wr (Kept.refl _) (World.ownsRow_nil _ _ _ _) (by simp)).mono ?_
                rintro e w4 ⟨rfl, hk⟩
                replace HO := Lib.hid (HO.out.kept hk)
                replace K := K.trans hk
                clear hk
                rw [pad_nil]
                go_wp2_with fail
                refine (rwrite_any w ([] : List WOp) 0 (zerosB 64) _ w4 K HO.out (by simp)).mono ?_
                rintro e w5 ⟨vt1, rfl, hr, hk⟩
                clear K
                have K := hk
                clear hk HO
                generalize hl7 : ([] : List WOp) ++ [⟨false, ⟨0, zerosB 64⟩⟩] = L7 at *
                have hb7 : L7.length ≤ 100 := by rw [← hl7, List.length_append]; have hbb : (([] : List WOp) : List WOp).length ≤ 99 := HB9.out; simp only [List.length_cons, List.length_nil]; omega
                have HL7 := Lib.hid hl7
                clear hl7
                have HO := Lib.hid hr
                clear hr
                obtain ⟨At1, ct1, rfl⟩ := HO.out.form
                go_wp2_with fail
                refine (rflush_any w L7 _ w5 K HO.out (by omega)).mono ?_
                rintro e w6 ⟨vt2, rfl, hr, hk⟩
                clear K
                have K := hk
                clear hk HO
                generalize hl8 : L7 ++ [opF] = L8 at *
                clear hl8
                have HO := Lib.hid hr
                clear hr
                obtain ⟨At2, ct2, rfl⟩ := HO.out.form
                go_wp2
                go_ret
                exact ⟨_, rfl, by rw [HRP2.out]; exact HO.out, K⟩
      · have t1 : ¬ (n : Int) > 0 := by omega
        rw [decide_eq_false h1, Bool.false_and] at HZE
        replace HB0 : Hid (rokB c 0 = false) := by show _ = _; rw [HB0.out, HZE.out]
        clear HZE h1
        go_wp2_with fail
        clear x0 x1 h74' hv1 hv2 hs64
        go_loopw [5, 7, 8] (fun lv rv iv wq => ∃ (i : Nat) (b : Bool) (A : Option Addr) (cap : Nat), i ≤ n ∧ iv = .int .i64 (i : Int) ∧ rv = .bool b ∧ lv = .slice A i cap ∧ Hid (rokB c i = b) ∧ Hid (wq.ownsRow (w.heap.size + 1) 82 2 (.slice A i cap) (entL c i).length ((entL c i).flatMap wrC)) ∧ Hid (Own wq w.heap.size 29 [.slice A0 n0 c0, .slice B0 m0 e0]) ∧ Kept w wq) (fun _ _ iv _ => n - (intOf iv).toNat)
        case atStart => exact ⟨0, false, none, 0, Nat.zero_le _, rfl, by first | rfl | exact congrArg Value.bool (decide_eq_false (by omega)), rfl, HB0, World.ownsRow_nil _ _ _ _, OD, K⟩
        case round =>
          clear OD K
          obtain ⟨i, b, LA, cap, hi, rfl, rfl, rfl, HB, HL, OD, K⟩ := hrel
          have hkw := K.size
          by_cases hlt : i < n
          · cases b with
            | true =>
              exfalso
              have h9 := HRPA.out i HB.out
              omega
            | false =>
              have HRP2 := Lib.hid (HRP.out.trans (HENO.out (.inl (HRF.out i hi HB.out))))
              clear HB HENO HEY HRF HMEM HRPA HRP
              have HO := Lib.hid (ROps.nil w wr)
              have HB9 : Hid (([] : List WOp).length ≤ 99) := by show _ ≤ _; simp
              go_wp2_with fail
              refine (rsector_any wr [] _ wr (Kept.refl _) (World.ownsRow_nil _ _ _ _) (by simp)).mono ?_
              rintro e w4 ⟨rfl, hk⟩
              replace HO := Lib.hid (HO.out.kept hk)
              replace K := K.trans hk
              clear hk
              rw [pad_nil]
              go_wp2_with fail
              refine (rwrite_any w ([] : List WOp) 0 (zerosB 64) _ w4 K HO.out (by simp)).mono ?_
              rintro e w5 ⟨vt1, rfl, hr, hk⟩
              clear K
              have K := hk
              clear hk HO
              generalize hl7 : ([] : List WOp) ++ [⟨false, ⟨0, zerosB 64⟩⟩] = L7 at *
              have hb7 : L7.length ≤ 100 := by rw [← hl7, List.length_append]; have hbb : (([] : List WOp) : List WOp).length ≤ 99 := HB9.out; simp only [List.length_cons, List.length_nil]; omega
              have HL7 := Lib.hid hl7
              clear hl7
              have HO := Lib.hid hr
              clear hr
              obtain ⟨At1, ct1, rfl⟩ := HO.out.form
              go_wp2_with fail
              refine (rflush_any w L7 _ w5 K HO.out (by omega)).mono ?_
              rintro e w6 ⟨vt2, rfl, hr, hk⟩
              clear K
              have K := hk
              clear hk HO
              generalize hl8 : L7 ++ [opF] = L8 at *
              clear hl8
              have HO := Lib.hid hr
              clear hr
              obtain ⟨At2, ct2, rfl⟩ := HO.out.form
              go_wp2
              go_ret
              exact ⟨_, rfl, by rw [HRP2.out]; exact HO.out, K⟩
          · obtain rfl : i = n := by omega
            cases b with
            | true =>
              exfalso
              have h9 := HRPA.out i HB.out
              omega
            | false =>
              have HRP2 := Lib.hid (HRP.out.trans (HENO.out (.inl (HRF.out i hi HB.out))))
              clear HB HENO HEY HRF HMEM HRPA HRP
              have HO := Lib.hid (ROps.nil w wr)
              have HB9 : Hid (([] : List WOp).length ≤ 99) := by show _ ≤ _; simp
              go_wp2_with fail
              refine (rsector_any wr [] _ wr (Kept.refl _) (World.ownsRow_nil _ _ _ _) (by simp)).mono ?_
              rintro e w4 ⟨rfl, hk⟩
              replace HO := Lib.hid (HO.out.kept hk)
              replace K := K.trans hk
              clear hk
              rw [pad_nil]
              go_wp2_with fail
              refine (rwrite_any w ([] : List WOp) 0 (zerosB 64) _ w4 K HO.out (by simp)).mono ?_
              rintro e w5 ⟨vt1, rfl, hr, hk⟩
              clear K
              have K := hk
              clear hk HO
              generalize hl7 : ([] : List WOp) ++ [⟨false, ⟨0, zerosB 64⟩⟩] = L7 at *
              have hb7 : L7.length ≤ 100 := by rw [← hl7, List.length_append]; have hbb : (([] : List WOp) : List WOp).length ≤ 99 := HB9.out; simp only [List.length_cons, List.length_nil]; omega
              have HL7 := Lib.hid hl7
              clear hl7
              have HO := Lib.hid hr
              clear hr
              obtain ⟨At1, ct1, rfl⟩ := HO.out.form
              go_wp2_with fail
              refine (rflush_any w L7 _ w5 K HO.out (by omega)).mono ?_
              rintro e w6 ⟨vt2, rfl, hr, hk⟩
              clear K
              have K := hk
              clear hk HO
              generalize hl8 : L7 ++ [opF] = L8 at *
              clear hl8
              have HO := Lib.hid hr
              clear hr
              obtain ⟨At2, ct2, rfl⟩ := HO.out.form
              go_wp2
              go_ret
              exact ⟨_, rfl, by rw [HRP2.out]; exact HO.out, K⟩
    · have HRP := Lib.hid (HT0.out h74)
      have t1 := bne_t (show ((byteAt hd 0).toNat : Int) ≠ 74 from fun e => h74 (UInt8.toNat_inj.1 (by have h9 : (74 : UInt8).toNat = 74 := rfl; omega)))
      clear HT7 HT0 h74
      go_wp2
      go_ret
      exact ⟨_, rfl, by rw [HRP.out]; exact ROps.nil _ _, K⟩
  · rw [hs]
    have HRP : Hid (repOps d = []) := rep_no hs
    clear hs
    go_wp2
    go_ret
    exact ⟨_, rfl, by rw [HRP.out]; exact ROps.nil _ _, K⟩
end Go.Proofs.YtagpimahicgkmaaDoor
