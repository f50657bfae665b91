/- Walks: disk.perform, disk.Flush, disk.Crash. -/
import Derived.Test.YtagpimahicgkmaaDoorDkRight
import Derived.Laws.CopyOwn
namespace Go.Proofs.YtagpimahicgkmaaDoor
open Go.RowKit

/-- The first k pending writes, those that p chooses, are performed. -/
def perfTo (l : List ByteArray) (ws : List Wr) (p : Nat → Bool) : Nat → List ByteArray
  | 0 => l
  | k + 1 => match ws[k]? with
    | some x => if p k then (perfTo l ws p k).set x.at_.toNat x.data else perfTo l ws p k
    | none => perfTo l ws p k
def perf (d : Dk) (p : Nat → Bool) : Dk := ⟨perfTo d.sec d.cache p d.cache.length, []⟩

theorem perfTo_length (l : List ByteArray) (ws : List Wr) (p : Nat → Bool) (k : Nat) : (perfTo l ws p k).length = l.length := by
  induction k with
  | zero => rfl
  | succ k ih =>
    simp only [perfTo]
    split
    · split <;> simp [ih]
    · exact ih
theorem perfTo_yes {l : List ByteArray} {ws : List Wr} {p : Nat → Bool} {k : Nat} (h : k < ws.length) (hp : p k = true) : perfTo l ws p (k + 1) = (perfTo l ws p k).set ws[k].at_.toNat ws[k].data := by
  simp [perfTo, List.getElem?_eq_getElem h, hp]
theorem perfTo_no {l : List ByteArray} {ws : List Wr} {p : Nat → Bool} {k : Nat} (h : k < ws.length) (hp : p k = false) : perfTo l ws p (k + 1) = perfTo l ws p k := by
  simp [perfTo, List.getElem?_eq_getElem h, hp]

theorem Tryd.infoStr : (Tryd.prog.info? 9).map (fun i => (i.zero, i.size, i.bytes)) = some (some (.string .empty), 1, 16) := by kernel_rfl

theorem Tryd.sizeStr : (Tryd.prog.info? 9).map (·.size) = some 1 := by kernel_rfl

theorem run_mkStrs (n : Nat) (hn : n ≤ 1024) (W : World) : (Instr.makeSlice 22 (.int .i64 (n : Int)) (.int .i64 (n : Int))).run Tryd.prog W =
    .ok (.slice (some ⟨W.heap.size, 0, none⟩) n n) (W.alloc (.cells (Array.replicate n (Value.string .empty)) 9)) := by
  obtain ⟨i, hi, hz, hs, hb⟩ := info_parts Tryd.infoStr
  have := run_make (P := Tryd.prog) W 22 9 i _ Tryd.underlying22 hi hz .i64 .i64 n n (by omega) (by omega) (by rw [hb]; omega) (by omega)
  rw [this, hs]
  simp [Value.cells, madeCells_one]

theorem right_parts {d : Dk} (h : rightB d = true) : 1 ≤ d.sec.length ∧ d.sec.length ≤ 1024 ∧ (∀ s ∈ d.sec, s.size = 64) ∧ ∀ x ∈ d.cache, 0 ≤ x.at_ ∧ x.at_ < d.sec.length ∧ x.data.size = 64 := by
  simp only [rightB, Bool.and_eq_true, decide_eq_true_eq, List.all_eq_true, beq_iff_eq, fitsB] at h
  exact ⟨h.1.1.1, h.1.1.2, h.1.2, fun x hx => ⟨(h.2 x hx).1.1, (h.2 x hx).1.2, (h.2 x hx).2⟩⟩

theorem strs_one (l : List ByteArray) : ∀ v ∈ strs l, v.oneCell' = true := by
  intro v hv; simp only [strs, List.mem_map] at hv; obtain ⟨s, _, rfl⟩ := hv; rfl

set_option maxRecDepth 100000 in
set_option maxHeartbeats 400000 in
theorem performAll_any (V : List Nat) (d : Dk) (v : Value) (w : World) (h : DkAt V w v d) (hV : Old V w) (hr : rightB d = true) :
    Calls Tryd.prog 64 #[v, .func (.func 81) #[] #[]] w fun e w' => ∃ s' c', e = .returned (.agg #[s', c']) ∧ DkAt V w' (.agg #[s', c']) (perf d fun _ => true) ∧ Kept w w' := by
  obtain ⟨h1, h2, _, hx⟩ := right_parts hr
  obtain ⟨_, _, rfl, ⟨A, c, rfl, hl, hm, hr⟩, ⟨A', c', rfl, hl', hm', hr'⟩⟩ := h
  obtain ⟨sec, cache⟩ := d
  simp only at *
  unfold maxLen at hm hm'
  obtain ⟨b, o, rfl, hb, _, hc⟩ := hr (by rw [strs_length]; omega)
  have hmk := run_mkStrs sec.length h2
  have hcp := run_copy_new (P := Tryd.prog) ((w.alloc (Obj.cells #[Value.slice (some ⟨b, o, none⟩) sec.length c, Value.slice A' cache.length c'] 25)).alloc (Obj.cells #[Value.slice none 0 0, Value.slice none 0 0] 25)) 22 3 9 (Array.replicate sec.length (Value.string ByteArray.empty)) 9 b o c (strs sec) Tryd.underlying22 Tryd.sizeStr (by simp [strs_length]) (by simp; omega) (fun j v hv => by rw [World.cell?_alloc_lt _ _ _ (by simp; omega), World.cell?_alloc_lt _ _ _ hb]; exact hc j v hv) (strs_one sec)
  rw [strs_length] at hcp
  simp only [World.size_alloc] at hcp
  have HX := Lib.hid hx
  have HR' := Lib.hid hr'
  clear hc hr hr' hx
  go_enter Tryd.func64, Tryd.ntmps64
  go_wp2_with fail
  go_loopw [19] (fun i wr => ∃ k : Nat, k ≤ cache.length ∧ i = .int .i64 k ∧ Own wr (w.heap.size + 1 + 1) 9 (strs (perfTo sec cache (fun _ => true) k)) ∧ Own wr (w.heap.size + 1) 25 [Value.slice none 0 0, Value.slice none 0 0] ∧ Kept w wr) (fun i _ => cache.length - (intOf i).toNat)
  case atStart => exact ⟨0, Nat.zero_le _, rfl, (by simpa [perfTo] using Own.new ((w.alloc _).alloc _) _ _), (by simpa using (Own.new (w.alloc _) _ [_, _]).alloc _), (((Kept.refl w).alloc _).alloc _).alloc _⟩
  case round =>
    obtain ⟨k, hk, rfl, ho1, ho2, hkept⟩ := hrel
    have HO1 := Lib.hid ho1
    have HO2 := Lib.hid ho2
    by_cases hlt : k < cache.length
    · obtain ⟨b', o', rfl, hb', _, hc'⟩ := HR'.out (by rw [wrs_length]; omega)
      have g1 : wr.cell? ⟨b', o' + k * 2, none⟩ = some (.int .i64 cache[k].at_) := (hkept.cell hb').trans (hc' _ _ (wrs_at hlt).1)
      have g2 : wr.cell? ⟨b', o' + k * 2 + 1, none⟩ = some (.string cache[k].data) := (hkept.cell (p := ⟨b', _, none⟩) hb').trans (hc' _ _ (wrs_at hlt).2)
      obtain ⟨x1, x2, x3⟩ := HX.out cache[k] (List.getElem_mem hlt)
      obtain ⟨m, hm⟩ := Int.eq_ofNat_of_zero_le x1
      have HY : Hid (perfTo sec cache (fun _ => true) (k + 1) = (perfTo sec cache (fun _ => true) k).set m cache[k].data) := by
        have := perfTo_yes (l := sec) (ws := cache) (p := fun _ => true) hlt rfl
        rw [hm] at this; exact this
      rw [hm] at g1 x2
      have hmn : m < sec.length := by omega
      have g3 : wr.cell? ⟨w.heap.size + 1 + 1, m, none⟩ = some (.string ((perfTo sec cache (fun _ => true) k)[m]'(by rw [perfTo_length]; exact hmn))) := by
        rw [ho1.cell?, strs_at]
      have g4 : wr.frozen? ⟨w.heap.size + 1 + 1, m, none⟩ = false := ho1.frozen m
      have hsz := ho1.lt
      clear hc' hm x1 x2 x3 ho1 ho2
      generalize cache[k].data = s at *
      go_wp2
      go_roundw
      case rel =>
        refine ⟨k + 1, by omega, by go_num, ?_, ?_, ?_⟩
        · rw [HY.out, strs_set]
          first | exact (HO1.out.alloc _).set_ _ _ | exact (HO1.out.set_ _ _).alloc _
        · first | exact (HO2.out.alloc _).far (by simp) _ | exact (HO2.out.far (by simp) _).alloc _
        · first | exact (hkept.alloc _).setCell (by simp; omega) _ | exact (hkept.setCell (by simp; omega) _).alloc _
      case measure => simp [intOf]; omega
    · obtain ⟨q1, q2, q3, q4⟩ := ho2.two
      have HK : Hid (k = cache.length) := by show k = _; omega
      clear ho1 ho2
      go_wp2
      have ho3 := HO2.out.put2 (Value.slice (some ⟨w.heap.size + 1 + 1, 0, none⟩) sec.length sec.length) (Value.slice none 0 0)
      obtain ⟨r1, r2, _, _⟩ := ho3.two
      refine bodyPost_ret (v := .agg #[Value.slice (some ⟨w.heap.size + 1 + 1, 0, none⟩) sec.length sec.length, .slice none 0 0]) (by simp [results, Tryd.results64, go_sem, r1, r2]) rfl ⟨_, _, rfl, ?_, ?_⟩
      · have ho4 := (HO1.out.far (p := ⟨w.heap.size + 1, 0, none⟩) (by simp) (Value.slice (some ⟨w.heap.size + 1 + 1, 0, none⟩) sec.length sec.length)).far (p := ⟨w.heap.size + 1, 1, none⟩) (by simp) (Value.slice none 0 0)
        rw [HK.out] at ho4
        exact ⟨_, _, rfl, strsAt_own ho4 (perfTo_length _ _ _ _) (by unfold maxLen; omega) (fun hh => by have := hV _ hh; omega), wrsAt_nil _ _⟩
      · exact (hkept.setCell (by simp) _).setCell (by simp) _
set_option maxRecDepth 100000 in
set_option maxHeartbeats 400000 in
theorem performSome_any (V : List Nat) (d : Dk) (v : Value) (w : World) (p : Nat → Bool) (pb kb : Nat) (h : DkAt V w v d) (hV : Old V w) (hr : rightB d = true) (hpb : pb < w.heap.size) (hkb : kb < w.heap.size) (hp : w.cell? ⟨pb, 0, none⟩ = some (.slice (some ⟨kb, 0, none⟩) d.cache.length d.cache.length)) (hkc : ∀ i, i < d.cache.length → w.cell? ⟨kb, i, none⟩ = some (.bool (p i))) :
    Calls Tryd.prog 64 #[v, .func (.func 65) #[] #[.pointer (some ⟨pb, 0, none⟩)]] w fun e w' => ∃ s' c', e = .returned (.agg #[s', c']) ∧ DkAt V w' (.agg #[s', c']) (perf d p) ∧ Kept w w' := by
  obtain ⟨h1, h2, _, hx⟩ := right_parts hr
  obtain ⟨_, _, rfl, ⟨A, c, rfl, hl, hm, hr⟩, ⟨A', c', rfl, hl', hm', hr'⟩⟩ := h
  obtain ⟨sec, cache⟩ := d
  simp only at *
  unfold maxLen at hm hm'
  obtain ⟨b, o, rfl, hb, _, hc⟩ := hr (by rw [strs_length]; omega)
  have hmk := run_mkStrs sec.length h2
  have hcp := run_copy_new (P := Tryd.prog) ((w.alloc (Obj.cells #[Value.slice (some ⟨b, o, none⟩) sec.length c, Value.slice A' cache.length c'] 25)).alloc (Obj.cells #[Value.slice none 0 0, Value.slice none 0 0] 25)) 22 3 9 (Array.replicate sec.length (Value.string ByteArray.empty)) 9 b o c (strs sec) Tryd.underlying22 Tryd.sizeStr (by simp [strs_length]) (by simp; omega) (fun j v hv => by rw [World.cell?_alloc_lt _ _ _ (by simp; omega), World.cell?_alloc_lt _ _ _ hb]; exact hc j v hv) (strs_one sec)
  rw [strs_length] at hcp
  simp only [World.size_alloc] at hcp
  have HX := Lib.hid hx
  have HP := Lib.hid hp
  have HKC := Lib.hid hkc
  have HR' := Lib.hid hr'
  clear hc hr hr' hx hp hkc
  go_enter Tryd.func64, Tryd.ntmps64
  go_wp2_with fail
  go_loopw [19] (fun i wr => ∃ k : Nat, k ≤ cache.length ∧ i = .int .i64 k ∧ Own wr (w.heap.size + 1 + 1) 9 (strs (perfTo sec cache p k)) ∧ Own wr (w.heap.size + 1) 25 [Value.slice none 0 0, Value.slice none 0 0] ∧ Kept w wr) (fun i _ => cache.length - (intOf i).toNat)
  case atStart => exact ⟨0, Nat.zero_le _, rfl, (by simpa [perfTo] using Own.new ((w.alloc _).alloc _) _ _), (by simpa using (Own.new (w.alloc _) _ [_, _]).alloc _), (((Kept.refl w).alloc _).alloc _).alloc _⟩
  case round =>
    obtain ⟨k, hk, rfl, ho1, ho2, hkept⟩ := hrel
    have HO1 := Lib.hid ho1
    have HO2 := Lib.hid ho2
    by_cases hlt : k < cache.length
    · obtain ⟨b', o', rfl, hb', _, hc'⟩ := HR'.out (by rw [wrs_length]; omega)
      have g1 : wr.cell? ⟨b', o' + k * 2, none⟩ = some (.int .i64 cache[k].at_) := (hkept.cell hb').trans (hc' _ _ (wrs_at hlt).1)
      have g2 : wr.cell? ⟨b', o' + k * 2 + 1, none⟩ = some (.string cache[k].data) := (hkept.cell (p := ⟨b', _, none⟩) hb').trans (hc' _ _ (wrs_at hlt).2)
      obtain ⟨x1, x2, x3⟩ := HX.out cache[k] (List.getElem_mem hlt)
      obtain ⟨m, hm⟩ := Int.eq_ofNat_of_zero_le x1
      have hmn : m < sec.length := by omega
      have g3 : wr.cell? ⟨w.heap.size + 1 + 1, m, none⟩ = some (.string ((perfTo sec cache p k)[m]'(by rw [perfTo_length]; exact hmn))) := by
        rw [ho1.cell?, strs_at]
      have g4 : wr.frozen? ⟨w.heap.size + 1 + 1, m, none⟩ = false := ho1.frozen m
      have hsz := ho1.lt
      have g5 : wr.cell? ⟨pb, 0, none⟩ = some (.slice (some ⟨kb, 0, none⟩) cache.length cache.length) := (hkept.cell (p := ⟨pb, 0, none⟩) hpb).trans HP.out
      have g6 : wr.cell? ⟨kb, k, none⟩ = some (.bool (p k)) := (hkept.cell (p := ⟨kb, k, none⟩) hkb).trans (HKC.out k hlt)
      have hpw : pb < wr.heap.size := Nat.lt_of_lt_of_le hpb hkept.size
      have hkw : kb < wr.heap.size := Nat.lt_of_lt_of_le hkb hkept.size
      rcases Bool.eq_false_or_eq_true (p k) with hpk | hpk
      · have HY : Hid (perfTo sec cache p (k + 1) = (perfTo sec cache p k).set m cache[k].data) := by
          have := perfTo_yes (l := sec) (ws := cache) (p := p) hlt hpk
          rw [hm] at this; exact this
        rw [hm] at g1
        rw [hpk] at g6
        clear hc' hm x1 x2 x3 ho1 ho2 hpk
        generalize cache[k].data = s at *
        go_wp2
        go_roundw
        case rel =>
          refine ⟨k + 1, by omega, by go_num, ?_, ?_, ?_⟩
          · rw [HY.out, strs_set]
            first | exact (HO1.out.alloc _).set_ _ _ | exact (HO1.out.set_ _ _).alloc _
          · first | exact (HO2.out.alloc _).far (by simp) _ | exact (HO2.out.far (by simp) _).alloc _
          · first | exact (hkept.alloc _).setCell (by simp; omega) _ | exact (hkept.setCell (by simp; omega) _).alloc _
        case measure => simp [intOf]; omega
      · have HY : Hid (perfTo sec cache p (k + 1) = perfTo sec cache p k) := perfTo_no (l := sec) (ws := cache) (p := p) hlt hpk
        rw [hm] at g1
        rw [hpk] at g6
        clear hc' hm x1 x2 x3 ho1 ho2 hpk
        generalize cache[k].data = s at *
        go_wp2
        go_roundw
        case rel => exact ⟨k + 1, by omega, by go_num, by rw [HY.out]; exact HO1.out.alloc _, HO2.out.alloc _, hkept.alloc _⟩
        case measure => simp [intOf]; omega
    · obtain ⟨q1, q2, q3, q4⟩ := ho2.two
      have HK : Hid (k = cache.length) := by show k = _; omega
      clear ho1 ho2
      go_wp2
      have ho3 := HO2.out.put2 (Value.slice (some ⟨w.heap.size + 1 + 1, 0, none⟩) sec.length sec.length) (Value.slice none 0 0)
      obtain ⟨r1, r2, _, _⟩ := ho3.two
      refine bodyPost_ret (v := .agg #[Value.slice (some ⟨w.heap.size + 1 + 1, 0, none⟩) sec.length sec.length, .slice none 0 0]) (by simp [results, Tryd.results64, go_sem, r1, r2]) rfl ⟨_, _, rfl, ?_, ?_⟩
      · have ho4 := (HO1.out.far (p := ⟨w.heap.size + 1, 0, none⟩) (by simp) (Value.slice (some ⟨w.heap.size + 1 + 1, 0, none⟩) sec.length sec.length)).far (p := ⟨w.heap.size + 1, 1, none⟩) (by simp) (Value.slice none 0 0)
        rw [HK.out] at ho4
        exact ⟨_, _, rfl, strsAt_own ho4 (perfTo_length _ _ _ _) (by unfold maxLen; omega) (fun hh => by have := hV _ hh; omega), wrsAt_nil _ _⟩
      · exact (hkept.setCell (by simp) _).setCell (by simp) _

def flushD (d : Dk) : Dk := if rightB d then perf d fun _ => true else d

set_option maxRecDepth 100000 in
set_option maxHeartbeats 400000 in
theorem flush_any (V : List Nat) (d : Dk) (v : Value) (w : World) (h : DkAt V w v d) (hV : Old V w) :
    Calls Tryd.prog 50 #[v] w fun e w' => ∃ s' c', e = .returned (.agg #[s', c']) ∧ DkAt V w' (.agg #[s', c']) (flushD d) ∧ Kept w w' := by
  have H := Lib.hid h
  obtain ⟨s, c, rfl, hs, hc⟩ := h
  clear hs hc
  rcases Bool.eq_false_or_eq_true (rightB d) with hr | hr
  · have HP := Lib.hid (fun U W v (hh : DkAt U W v d) (hu : Old U W) => performAll_any U d v W hh hu hr)
    go_enter Tryd.func50, Tryd.ntmps50
    go_wp2_with fail
    refine (right_any V d _ _ (H.out.go (((Kept.refl w).alloc _).alloc _) (Ext.refl _ _))).mono ?_
    rintro e w1 ⟨rfl, hk1⟩
    obtain ⟨q1, q2, _, _⟩ := (((Own.new w _ [s, c]).alloc _).kept hk1).two
    have HO2 := Lib.hid ((Own.new1 w _ _ [Value.slice none 0 0, Value.slice none 0 0]).kept hk1)
    go_wp2_with fail
    refine (HP.out ((w.heap.size + 1) :: V) _ _ (H.out.go ((((Kept.refl w).alloc _).alloc _).trans hk1) ?_) ?_).mono ?_
    · exact Ext.cons (by omega) (Ext.refl _ _)
    · exact Old.cons HO2.out.lt (hV.go ((((Kept.refl w).alloc _).alloc _).trans hk1))
    rintro e w2 ⟨s2, c2, rfl, hd2, hk2⟩
    obtain ⟨A2, k2, A3, k3, rfl, rfl⟩ := hd2.form
    generalize (perf d fun _ => true).sec.length = n2, (perf d fun _ => true).cache.length = n3 at *
    have HD2 := Lib.hid hd2
    clear hd2
    obtain ⟨p1, p2, p3, p4⟩ := (HO2.out.kept hk2).two
    go_wp2
    have ho3 := (HO2.out.kept hk2).put2 (.slice A2 n2 k2) (.slice A3 n3 k3)
    obtain ⟨r1, r2, _, _⟩ := ho3.two
    refine bodyPost_ret (v := .agg #[.slice A2 n2 k2, .slice A3 n3 k3]) ?_ rfl ?_
    · simp [results, Tryd.results50, go_sem, r1, r2]
    · refine ⟨_, _, rfl, ?_, ?_⟩
      · simp only [flushD, hr, if_true]
        exact ((HD2.out.put (by simp) _).put (by simp) _).weak (fun _ h => List.mem_cons_of_mem _ h)
      · exact ((((((Kept.refl w).alloc _).alloc _).trans hk1).trans hk2).setCell (by simp) _).setCell (by simp) _
  · go_enter Tryd.func50, Tryd.ntmps50
    go_wp2_with fail
    refine (right_any V d _ _ (H.out.go (((Kept.refl w).alloc _).alloc _) (Ext.refl _ _))).mono ?_
    rintro e w1 ⟨rfl, hk1⟩
    obtain ⟨q1, q2, _, _⟩ := (((Own.new w _ [s, c]).alloc _).kept hk1).two
    have HO2 := Lib.hid ((Own.new1 w _ _ [Value.slice none 0 0, Value.slice none 0 0]).kept hk1)
    have HD2 := Lib.hid (H.out.go ((((Kept.refl w).alloc _).alloc _).trans hk1) (Ext.cons (k := w.heap.size + 1) (by omega) (Ext.refl _ _)))
    obtain ⟨A2, k2, A3, k3, rfl, rfl⟩ := HD2.out.form
    generalize d.sec.length = n2, d.cache.length = n3 at *
    obtain ⟨p1, p2, p3, p4⟩ := HO2.out.two
    go_wp2
    have ho3 := HO2.out.put2 (.slice A2 n2 k2) (.slice A3 n3 k3)
    obtain ⟨r1, r2, _, _⟩ := ho3.two
    refine bodyPost_ret (v := .agg #[.slice A2 n2 k2, .slice A3 n3 k3]) ?_ rfl ?_
    · simp [results, Tryd.results50, go_sem, r1, r2]
    · refine ⟨_, _, rfl, ?_, ?_⟩
      · simp only [flushD, hr, Bool.false_eq_true, if_false]
        exact ((HD2.out.put (by simp) _).put (by simp) _).weak (fun _ h => List.mem_cons_of_mem _ h)
      · exact (((((Kept.refl w).alloc _).alloc _).trans hk1).setCell (by simp) _).setCell (by simp) _
end Go.Proofs.YtagpimahicgkmaaDoor
