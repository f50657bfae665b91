/- Walk: disk.Crash. -/
import Derived.Test.YtagpimahicgkmaaDoorDkPerf
namespace Go.Proofs.YtagpimahicgkmaaDoor
open Go.RowKit

def ints (l : List Int) : List Value := l.map (Value.int .i64)
theorem ints_length (l : List Int) : (ints l).length = l.length := by simp [ints]
theorem ints_at {l : List Int} {k : Nat} (h : k < l.length) : (ints l)[k]? = some (.int .i64 l[k]) := by simp [ints, h]
def IntsAt (V : List Nat) (w : World) (v : Value) (l : List Int) : Prop :=
  ∃ A c, v = .slice A l.length c ∧ l.length ≤ c ∧ c ≤ maxLen ∧ Row V w A (ints l)
theorem IntsAt.go {V U : List Nat} {w w' : World} {v : Value} {l : List Int} (h : IntsAt V w v l) (k : Kept w w') (hU : Ext U w V) : IntsAt U w' v l := by
  obtain ⟨A, c, e, h1, h2, h3⟩ := h; exact ⟨A, c, e, h1, h2, h3.go k hU⟩

def keptL (n : Nat) (keep : List Int) : List Value := (List.range n).map fun (i : Nat) => .bool (keep.contains (i : Int))
theorem keptL_length (n : Nat) (keep : List Int) : (keptL n keep).length = n := by simp [keptL]
theorem keptL_at {n : Nat} {keep : List Int} {i : Nat} (h : i < n) : (keptL n keep)[i]? = some (.bool (keep.contains (i : Int))) := by simp [keptL, h]
theorem keptL_nil (n : Nat) : keptL n [] = List.replicate n (.bool false) := by
  apply List.ext_getElem
  · simp [keptL]
  · intro i h1 h2; simp [keptL]
theorem keptL_in {n : Nat} {keep : List Int} {j k : Nat} (h : j < keep.length) (hk : keep[j] = (k : Int)) (_hn : k < n) : keptL n (keep.take (j + 1)) = (keptL n (keep.take j)).set k (.bool true) := by
  apply List.ext_getElem
  · simp [keptL]
  · intro i h1 h2
    rw [List.getElem_set]
    simp only [keptL, List.getElem_map, List.getElem_range, List.take_succ_eq_append_getElem h, List.contains_append, hk]
    by_cases e : k = i
    · subst e; simp
    · have : ¬ (i : Int) = (k : Int) := by omega
      simp [e, this]
theorem keptL_out {n : Nat} {keep : List Int} {j : Nat} (h : j < keep.length) (hk : keep[j] < 0 ∨ (n : Int) ≤ keep[j]) : keptL n (keep.take (j + 1)) = keptL n (keep.take j) := by
  apply List.ext_getElem
  · simp [keptL]
  · intro i h1 h2
    simp only [keptL, List.getElem_map, List.getElem_range, List.take_succ_eq_append_getElem h, List.contains_append]
    have hi : i < n := by simpa [keptL] using h1
    have : ¬ (i : Int) = keep[j] := by omega
    simp [this]

def crashD (d : Dk) (keep : List Int) : Dk := if rightB d then perf d (fun (i : Nat) => keep.contains (i : Int)) else d

theorem Tryd.infoBool : (Tryd.prog.info? 4).map (fun i => (i.zero, i.size, i.bytes)) = some (some (.bool false), 1, 1) := by kernel_rfl
theorem run_mkBools (n : Nat) (hn : n ≤ 1000000) (W : World) : (Instr.makeSlice 111 (.int .i64 (n : Int)) (.int .i64 (n : Int))).run Tryd.prog W =
    .ok (.slice (some ⟨W.heap.size, 0, none⟩) n n) (W.alloc (.cells (Array.replicate n (Value.bool false)) 4)) := by
  obtain ⟨i, hi, hz, hs, hb⟩ := info_parts Tryd.infoBool
  have := run_make (P := Tryd.prog) W 111 4 i _ Tryd.underlying111 hi hz .i64 .i64 n n (by omega) (by omega) (by rw [hb]; omega) (by omega)
  rw [this, hs]
  simp [Value.cells, madeCells_one]

set_option maxRecDepth 100000 in
set_option maxHeartbeats 400000 in
theorem crash_any (V : List Nat) (d : Dk) (keep : List Int) (v u : Value) (w : World) (h : DkAt V w v d) (hu : IntsAt [] w u keep) (hV : Old V w) (hcs : d.cache.length ≤ 1000000) :
    Calls Tryd.prog 28 #[v, u] w fun e w' => ∃ s' c', e = .returned (.agg #[s', c']) ∧ DkAt V w' (.agg #[s', c']) (crashD d keep) ∧ Kept w w' := by
  have H := Lib.hid h
  have HU := Lib.hid hu
  obtain ⟨s, c, rfl, hs, hc⟩ := h
  obtain ⟨B, bc, rfl, bl, bm, br⟩ := hu
  obtain ⟨A0, k0, A1, k1, rfl, rfl⟩ := H.out.form
  unfold maxLen at bm
  have HB := Lib.hid br
  clear hs hc br
  have hmk := run_mkBools d.cache.length hcs
  rcases Bool.eq_false_or_eq_true (rightB d) with hr | hr
  · go_enter Tryd.func28, Tryd.ntmps28
    go_wp2_with fail
    refine (right_any V d _ _ (H.out.go (((Kept.refl w).alloc _).alloc _) (Ext.refl _ _))).mono ?_
    rintro e w1 ⟨rfl, hk1⟩
    have HO1 := Lib.hid (((Own.new w 25 [Value.slice A0 d.sec.length k0, Value.slice A1 d.cache.length k1]).alloc (Obj.cells #[Value.slice none 0 0, Value.slice none 0 0] 25)).kept hk1)
    have HO2 := Lib.hid ((Own.new1 w _ _ [Value.slice none 0 0, Value.slice none 0 0]).kept hk1)
    obtain ⟨q1, q2, _, _⟩ := HO1.out.two
    have hkw1 : Kept w w1 := (((Kept.refl w).alloc _).alloc _).trans hk1
    have hsz : w.heap.size + 1 < w1.heap.size := HO2.out.lt
    clear hk1
    go_wp2_with fail
    go_loopw [18] (fun i wr => ∃ j : Nat, j ≤ keep.length ∧ i = .int .i64 j ∧ Own wr w1.heap.size 4 (keptL d.cache.length (keep.take j)) ∧ Own wr (w1.heap.size + 1) 111 [Value.slice (some ⟨w1.heap.size, 0, none⟩) d.cache.length d.cache.length] ∧ Kept w1 wr) (fun i _ => keep.length - (intOf i).toNat)
    case atStart => exact ⟨0, Nat.zero_le _, rfl, by have := (Own.new w1 4 (List.replicate d.cache.length (Value.bool false))); rw [← keptL_nil] at this; simpa [keptL_nil] using this.alloc (Obj.cells #[Value.slice (some ⟨w1.heap.size, 0, none⟩) d.cache.length d.cache.length] 111), Own.new1 w1 _ _ [_], ((Kept.refl w1).alloc _).alloc _⟩
    case round =>
      obtain ⟨j, hj, rfl, ho3, ho4, hkept⟩ := hrel
      have HO3 := Lib.hid ho3
      have HO4 := Lib.hid ho4
      obtain ⟨q3, q4⟩ := ho4.one
      have hkww : Kept w wr := hkw1.trans hkept
      by_cases hlt : j < keep.length
      · obtain ⟨b', o', rfl, hb', _, hc'⟩ := HB.out.kept hkww (by rw [ints_length]; omega)
        have g1 : wr.cell? ⟨b', o' + j, none⟩ = some (.int .i64 keep[j]) := hc' _ _ (ints_at hlt)
        by_cases hin : 0 ≤ keep[j] ∧ keep[j] < (d.cache.length : Int)
        · obtain ⟨m, hm⟩ := Int.eq_ofNat_of_zero_le hin.1
          have hmn : m < d.cache.length := by omega
          have HY := Lib.hid (keptL_in (n := d.cache.length) hlt hm hmn)
          rw [hm] at g1
          have g3 : wr.cell? ⟨w1.heap.size, m, none⟩ = some (.bool ((keep.take j).contains (m : Int))) := by rw [ho3.cell?, keptL_at hmn]
          have g4 := ho3.frozen m
          have hs3 := ho3.lt
          clear hc' hin hm ho3 ho4
          go_wp2
          go_roundw
          case rel =>
            refine ⟨j + 1, by omega, by go_num, ?_, ?_, ?_⟩
            · rw [HY.out]; exact HO3.out.set_ _ _
            · exact HO4.out.far (by simp) _
            · exact hkept.setCell (by simp) _
          case measure => simp [intOf]; omega
        · have HY := Lib.hid (keptL_out (n := d.cache.length) hlt (by omega))
          generalize keep[j] = x at *
          clear hc' ho3 ho4
          by_cases hx : 0 ≤ x
          all_goals
            go_wp2
            go_roundw
            case rel => exact ⟨j + 1, by omega, by go_num, by rw [HY.out]; exact HO3.out, HO4.out, hkept⟩
            case measure => simp [intOf]; omega
      · obtain ⟨p1, p2, _, _⟩ := (HO1.out.kept hkept).two
        have HP := Lib.hid (performSome_any ((w.heap.size + 1) :: V) d (.agg #[Value.slice A0 d.sec.length k0, Value.slice A1 d.cache.length k1]) wr (fun (i : Nat) => keep.contains (i : Int)) (w1.heap.size + 1) w1.heap.size (H.out.go hkww (Ext.cons (by omega) (Ext.refl _ _))) (Old.cons (by have := hkept.size; omega) (hV.go hkww)) hr ho4.lt ho3.lt q3 (fun i hi => by
          rw [ho3.cell?, keptL_at hi, List.take_of_length_le (by omega)]))
        clear ho3 ho4
        go_wp2_with fail
        refine HP.out.mono ?_
        rintro e w2 ⟨s2, c2, rfl, hd2, hk2⟩
        obtain ⟨A2, k2, A3, k3, rfl, rfl⟩ := hd2.form
        generalize (perf d fun (i : Nat) => keep.contains (i : Int)).sec.length = n2, (perf d fun (i : Nat) => keep.contains (i : Int)).cache.length = n3 at *
        have HD2 := Lib.hid hd2
        clear hd2
        have HO5 := Lib.hid ((HO2.out.kept hkept).kept hk2)
        obtain ⟨t1, t2, t3, t4⟩ := HO5.out.two
        go_wp2
        have ho6 := HO5.out.put2 (.slice A2 n2 k2) (.slice A3 n3 k3)
        obtain ⟨r1, r2, _, _⟩ := ho6.two
        refine bodyPost_ret (v := .agg #[.slice A2 n2 k2, .slice A3 n3 k3]) ?_ rfl ?_
        · simp [results, Tryd.results28, go_sem, r1, r2]
        · refine ⟨_, _, rfl, ?_, ?_⟩
          · simp only [crashD, hr, if_true]
            exact ((HD2.out.put (by simp) _).put (by simp) _).weak (fun _ h => List.mem_cons_of_mem _ h)
          · exact ((hkww.trans hk2).setCell (by simp) _).setCell (by simp) _
  · go_enter Tryd.func28, Tryd.ntmps28
    go_wp2_with fail
    refine (right_any V d _ _ (H.out.go (((Kept.refl w).alloc _).alloc _) (Ext.refl _ _))).mono ?_
    rintro e w1 ⟨rfl, hk1⟩
    obtain ⟨q1, q2, _, _⟩ := (((Own.new w _ [Value.slice A0 d.sec.length k0, Value.slice A1 d.cache.length k1]).alloc _).kept hk1).two
    have HO2 := Lib.hid ((Own.new1 w _ _ [Value.slice none 0 0, Value.slice none 0 0]).kept hk1)
    have HD2 := Lib.hid (H.out.go ((((Kept.refl w).alloc _).alloc _).trans hk1) (Ext.cons (k := w.heap.size + 1) (by omega) (Ext.refl _ _)))
    obtain ⟨p1, p2, p3, p4⟩ := HO2.out.two
    go_wp2
    have ho3 := HO2.out.put2 (Value.slice A0 d.sec.length k0) (Value.slice A1 d.cache.length k1)
    obtain ⟨r1, r2, _, _⟩ := ho3.two
    refine bodyPost_ret (v := .agg #[Value.slice A0 d.sec.length k0, Value.slice A1 d.cache.length k1]) ?_ rfl ?_
    · simp [results, Tryd.results28, go_sem, r1, r2]
    · refine ⟨_, _, rfl, ?_, ?_⟩
      · simp only [crashD, hr, Bool.false_eq_true, if_false]
        exact ((HD2.out.put (by simp) _).put (by simp) _).weak (fun _ h => List.mem_cons_of_mem _ h)
      · exact (((((Kept.refl w).alloc _).alloc _).trans hk1).setCell (by simp) _).setCell (by simp) _
end Go.Proofs.YtagpimahicgkmaaDoor
