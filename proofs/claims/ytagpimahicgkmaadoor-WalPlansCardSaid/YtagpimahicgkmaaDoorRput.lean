/- Walk: mailsackref09.Put. -/
import Derived.Test.YtagpimahicgkmaaDoorRfRight
import Derived.Test.YtagpimahicgkmaaDoorRfP
import Derived.Deep.RegionHeld3
import Derived.Deep.RegionLaw
import Derived.Deep.DrawnRows
namespace Go.Proofs.YtagpimahicgkmaaDoor
open Go.RowKit
attribute [local go_sem ↓] Go.wp_at_zero Go.wp_at_succ

theorem step_app_rw {w : World} {ops : Array Oper} {o : Oper} {a : Act} {K : Act → World → Prop} {Q : Exit → Act → World → Prop} {E : Prop} (hgd : o.guard = none) (s x : Operand)
    (ho : o.op = .call { callee := .builtin .append, args := #[s, x], argTypes := #[27, 27] })
    (base : Nat) (v : Value) (l : List Wr) (hs : a.eval s = v) (hown : w.ownsRow base 82 2 v l.length (wrs l))
    (V : List Nat) (A : Option Addr) (c : Nat) (m : List Wr) (hx : a.eval x = .slice A m.length c) (hr : Row V w A (wrs m)) (h63 : (l.length + m.length) * 24 ≤ 140737488355328) (hbase : base ≤ w.heap.size)
    (h : ∀ v' w', w'.ownsRow base 82 2 v' (l ++ m).length (wrs (l ++ m)) → w.grownBy w' v.ownBlock → (v'.ownBlock = v.ownBlock ∨ v'.ownBlock = some w.heap.size) → K (a.put o.dst v') w') :
    if Region.wanted o (yielded ops a.tmps) = true then Oper.wp Tryd.prog o a w K Q else E := by
  obtain ⟨i, hi, hz, hsz, hb⟩ := info_parts Tryd.infoRw
  refine step_append_any w hgd s x _ ho base _ i _ 2 24 Tryd.underlying27 hi hz hsz hb rfl (by omega) v l.length (wrs l) hs hown V A m.length c (wrs m) hx (wrs_length m) hr (wrs_one m) (by unfold maxLen; omega) h63 hbase ?_
  intro v' w' h1 h2 h3
  exact h v' w' (by rw [wrs_append, List.length_append]; exact h1) h2 h3

def rputR (d : Dk) (x : Wr) : Dk × Bool := if rightB d && fitsB x d.sec.length then (⟨d.sec, d.cache ++ [x]⟩, true) else (⟨[], []⟩, false)

set_option maxRecDepth 100000 in
set_option maxHeartbeats 1000000 in
theorem rput_any (V : List Nat) (d : Dk) (x : Wr) (v : Value) (w : World) (h : DkAt V w v d) (hV : Old V w) (hcs : d.cache.length ≤ 100000) :
    Calls Tryd.prog 62 #[v, .agg #[.int .i64 x.at_, .string x.data]] w fun e w' => ∃ s' c', e = .returned (.tuple #[.agg #[s', c'], .bool (rputR d x).2]) ∧ DkAt V w' (.agg #[s', c']) (rputR d x).1 ∧ Kept w w' := by
  have H := Lib.hid h
  obtain ⟨s, c, rfl, ⟨A, k0, rfl, hl, hm, hs⟩, ⟨A', k1, rfl, hl', hm', hc⟩⟩ := h
  unfold maxLen at hm hm'
  have HS := Lib.hid hs
  have HC := Lib.hid hc
  clear hs hc
  rcases Bool.eq_false_or_eq_true (rightB d) with hr | hr
  · rcases Bool.eq_false_or_eq_true (fitsB x d.sec.length) with hf | hf
    · go_enter Tryd.func62, Tryd.ntmps62
      go_wp2_with fail
      refine (rright_any V d _ _ (H.out.go ((((Kept.refl w).alloc _).alloc _).alloc _) (Ext.refl _ _))).mono ?_
      rw [hr]
      rintro e w1 ⟨rfl, hk1⟩
      have HO1 := Lib.hid ((((Own.new w _ [Value.slice A d.sec.length k0, Value.slice A' d.cache.length k1]).alloc _).alloc _).kept hk1)
      have HO2 := Lib.hid (((Own.new1 w _ _ [Value.int .i64 x.at_, .string x.data]).alloc _).kept hk1)
      have HO3 := Lib.hid ((Own.new2 w _ _ _ [Value.slice none 0 0, Value.slice none 0 0]).kept hk1)
      have hkw1 : Kept w w1 := ((((Kept.refl w).alloc _).alloc _).alloc _).trans hk1
      clear hk1
      obtain ⟨q1, q2, _, _⟩ := HO1.out.two
      obtain ⟨q3, q4, _, _⟩ := HO2.out.two
      go_wp2_with fail
      refine (rfits_any V d _ x _ (H.out.go hkw1 (Ext.refl _ _))).mono ?_
      rw [hf]
      rintro e w2 ⟨rfl, hk2⟩
      have hkw2 : Kept w w2 := hkw1.trans hk2
      have HO1' := Lib.hid (HO1.out.kept hk2)
      have HO2' := Lib.hid (HO2.out.kept hk2)
      have HO3' := Lib.hid (HO3.out.kept hk2)
      clear q1 q2 q3 q4
      obtain ⟨q1, q2, q1f, q2f⟩ := HO1'.out.two
      obtain ⟨q3, q4, _, _⟩ := HO2'.out.two
      have hsz0 : w.heap.size < w2.heap.size := HO1'.out.lt
      have hsz1 : w.heap.size + 1 < w2.heap.size := HO2'.out.lt
      have hsz2 : w.heap.size + 1 + 1 < w2.heap.size := HO3'.out.lt
      have HN0 : ∀ W : World, Hid (W.ownsRow w2.heap.size 82 2 (.slice none 0 0) ([] : List Wr).length (wrs [])) := fun W => ⟨by simp [wrs], .inl ⟨rfl, rfl⟩⟩
      have HCk : ∀ W, Kept w2 W → Hid (Row V W A' (wrs d.cache)) := fun W hk => HC.out.kept (hkw2.trans hk)
      have C1 : ∀ W', Kept w2 W' → W'.cell? ⟨w.heap.size, 1, none⟩ = some (Value.slice A' d.cache.length k1) := fun W' hk => (hk.cell (p := ⟨w.heap.size, 1, none⟩) hsz0).trans q2
      have C2 : ∀ W', Kept w2 W' → W'.cell? ⟨w.heap.size + 1, 0, none⟩ = some (.int .i64 x.at_) := fun W' hk => (hk.cell (p := ⟨w.heap.size + 1, 0, none⟩) hsz1).trans q3
      have C3 : ∀ W', Kept w2 W' → W'.cell? ⟨w.heap.size + 1, 1, none⟩ = some (.string x.data) := fun W' hk => (hk.cell (p := ⟨w.heap.size + 1, 1, none⟩) hsz1).trans q4
      have C4 : ∀ W', Kept w2 W' → W'.frozen? ⟨w.heap.size, 1, none⟩ = false := fun W' hk => (hk.frozen (p := ⟨w.heap.size, 1, none⟩) hsz0).trans q2f
      go_wp2_with fail
      go_region_law (first
          | (refine step_app_rw (by rfl) (.tmp 17) (.tmp 19) (by rfl) w2.heap.size (.slice none 0 0) [] (by rfl) (HN0 _).out V A' k1 d.cache (by rfl) (HCk _ ?_).out (by simp; omega) ?_ ?_; (first | exact (Kept.refl _).drew | exact ((Kept.refl _).alloc _).drew); (simp); intro v3 w3 hown3 hg3 hat3; have hk3 : Kept w2 w3 := (by first | exact ((Kept.refl _).drew).grown hg3 (fun k hk => by cases hk) | exact (((Kept.refl _).alloc _).drew).grown hg3 (fun k hk => by cases hk)); obtain ⟨A3, c3, rfl, hc3, hm3, hr3⟩ := own_form (V := []) hown3 (by simp); have HOwn3 := Lib.hid hown3; clear hown3 hr3; have hy0 : w.heap.size < w3.heap.size := Nat.lt_of_lt_of_le hsz0 hk3.size; have hy1 : w.heap.size + 1 < w3.heap.size := Nat.lt_of_lt_of_le hsz1 hk3.size; have e1 := C1 w3 hk3; have e2 := C2 w3 hk3; have e3 := C3 w3 hk3; have e4 := C4 w3 hk3)
          | (refine step_app_rw (by rfl) (.tmp 20) (.tmp 22) (by rfl) w2.heap.size _ ([] ++ d.cache) (by rfl) (HOwn3.out.alloc _) [] (some ⟨w3.heap.size, 0, none⟩) 1 [x] (by rfl) ((Own.new w3 _ (wrs [x])).row (by simp)) (by simp; omega) ?_ ?_; (have := hk3.size; simp; omega); intro v4 w4 hown4 hg4 hat4; have hb3 : ∀ bb, (Value.slice A3 ([] ++ d.cache).length c3).ownBlock = some bb → w2.heap.size ≤ bb := fun bb hb => (ownBlock_of HOwn3.out hb).1; have hk4 : Kept w2 w4 := (hk3.alloc _).grown hg4 hb3; obtain ⟨A4, c4, rfl, hc4, hm4, hr4⟩ := own_form (V := w.heap.size :: (w.heap.size + 1 + 1) :: V) hown4 (Old.cons hsz0 (Old.cons hsz2 (hV.go hkw2))); have HR4 := Lib.hid hr4; have u1 := C1 w4 hk4; have u4 := C4 w4 hk4; clear hr4 hown4)
          | (refine step_app_rw (by rfl) (.tmp 20) (.tmp 22) (by rfl) w2.heap.size _ ([] ++ d.cache) (by rfl) HOwn3.out [] (some ⟨w2.heap.size, 0, none⟩) 1 [x] (by rfl) ((Own.grown (Own.drew (Own.new w2 _ (wrs [x]))) hg3 (by simp [Value.ownBlock])).row (by simp)) (by simp; omega) hk3.size ?_; intro v4 w4 hown4 hg4 hat4; have hb3 : ∀ bb, (Value.slice A3 ([] ++ d.cache).length c3).ownBlock = some bb → w2.heap.size ≤ bb := fun bb hb => (ownBlock_of HOwn3.out hb).1; have hk4 : Kept w2 w4 := (hk3).grown hg4 hb3; obtain ⟨A4, c4, rfl, hc4, hm4, hr4⟩ := own_form (V := w.heap.size :: (w.heap.size + 1 + 1) :: V) hown4 (Old.cons hsz0 (Old.cons hsz2 (hV.go hkw2))); have HR4 := Lib.hid hr4; have u1 := C1 w4 hk4; have u4 := C4 w4 hk4; clear hr4 hown4))
      all_goals
        have hkw4 : Kept w w4 := hkw2.trans hk4
        have HO1x := Lib.hid ((HO1'.out.kept hk4).set_ 1 (Value.slice A4 ([] ++ d.cache ++ [x]).length c4))
        have HO3x := Lib.hid ((HO3'.out.kept hk4).far (p := ⟨w.heap.size, 1, none⟩) (by simp; omega) (Value.slice A4 ([] ++ d.cache ++ [x]).length c4))
        have HS4 := Lib.hid (HS.out.go hkw4 (Ext.cons (k := w.heap.size) (by omega) (Ext.cons (k := w.heap.size + 1 + 1) (by omega) (Ext.refl _ _))))
        clear u1 u4 q1 q2 q3 q4 e1 e2 e3 e4 C1 C2 C3 C4
        obtain ⟨t1, t2, _, _⟩ := HO1x.out.two
        obtain ⟨p1, p2, p3, p4⟩ := HO3x.out.two
        simp only [List.nil_append, List.length_append, List.length_cons, List.length_nil] at *
        go_wp2
        have ho6 := HO3x.out.put2 (.slice A d.sec.length k0) (.slice A4 (d.cache.length + (0 + 1)) c4)
        obtain ⟨r1, r2, _, _⟩ := ho6.two
        refine bodyPost_ret (v := .tuple #[.agg #[.slice A d.sec.length k0, .slice A4 (d.cache.length + (0 + 1)) c4], .bool true]) ?_ rfl ?_
        · simp [results, Tryd.results62, go_sem] at r1 r2 ⊢
          simp [go_sem, r1, r2]
        · simp only [rputR, hr, hf, Bool.and_self, if_true]
          refine ⟨_, _, rfl, ?_, (((hkw4.setCell (by simp) _).setCell (by simp; omega) _).setCell (by simp; omega) _)⟩
          have hD : DkAt (w.heap.size :: (w.heap.size + 1 + 1) :: V) w4 (.agg #[.slice A d.sec.length k0, .slice A4 (d.cache.length + (0 + 1)) c4]) ⟨d.sec, d.cache ++ [x]⟩ :=
            ⟨_, _, rfl, ⟨A, k0, rfl, hl, by unfold maxLen; omega, HS4.out⟩, ⟨A4, c4, by simp, by simp; omega, hm4, HR4.out⟩⟩
          exact (((hD.put (by simp) _).put (by simp) _).put (by simp) _).weak (fun _ h => List.mem_cons_of_mem _ (List.mem_cons_of_mem _ h))
    · have HR : Hid (rputR d x = (⟨[], []⟩, false)) := by show _ = _; simp [rputR, hf]
      go_enter Tryd.func62, Tryd.ntmps62
      go_wp2_with fail
      refine (rright_any V d _ _ (H.out.go ((((Kept.refl w).alloc _).alloc _).alloc _) (Ext.refl _ _))).mono ?_
      rw [hr]
      rintro e w1 ⟨rfl, hk1⟩
      have HO1 := Lib.hid ((((Own.new w _ [Value.slice A d.sec.length k0, Value.slice A' d.cache.length k1]).alloc _).alloc _).kept hk1)
      have HO2 := Lib.hid (((Own.new1 w _ _ [Value.int .i64 x.at_, .string x.data]).alloc _).kept hk1)
      have HO3 := Lib.hid ((Own.new2 w _ _ _ [Value.slice none 0 0, Value.slice none 0 0]).kept hk1)
      have hkw1 : Kept w w1 := ((((Kept.refl w).alloc _).alloc _).alloc _).trans hk1
      clear hk1
      obtain ⟨q1, q2, _, _⟩ := HO1.out.two
      obtain ⟨q3, q4, _, _⟩ := HO2.out.two
      go_wp2_with fail
      refine (rfits_any V d _ x _ (H.out.go hkw1 (Ext.refl _ _))).mono ?_
      rw [hf]
      rintro e w2 ⟨rfl, hk2⟩
      have hkw2 : Kept w w2 := hkw1.trans hk2
      have HO1' := Lib.hid (HO1.out.kept hk2)
      have HO2' := Lib.hid (HO2.out.kept hk2)
      have HO3' := Lib.hid (HO3.out.kept hk2)
      clear q1 q2 q3 q4
      obtain ⟨q1, q2, q1f, q2f⟩ := HO1'.out.two
      obtain ⟨q3, q4, _, _⟩ := HO2'.out.two
      clear q1 q2 q3 q4
      obtain ⟨p1, p2, p3, p4⟩ := HO3'.out.two
      go_wp2
      have ho6 := HO3'.out.put2 (.slice none 0 0) (.slice none 0 0)
      obtain ⟨r1, r2, _, _⟩ := ho6.two
      refine bodyPost_ret (v := .tuple #[.agg #[.slice none 0 0, .slice none 0 0], .bool false]) ?_ rfl ?_
      · simp [results, Tryd.results62, go_sem, r1, r2]
      · rw [HR.out]
        exact ⟨_, _, rfl, ⟨_, _, rfl, strsAt_nil _ _, wrsAt_nil _ _⟩, (hkw2.setCell (by simp; omega) _).setCell (by simp; omega) _⟩
  · have HR : Hid (rputR d x = (⟨[], []⟩, false)) := by show _ = _; simp [rputR, hr]
    go_enter Tryd.func62, Tryd.ntmps62
    go_wp2_with fail
    refine (rright_any V d _ _ (H.out.go ((((Kept.refl w).alloc _).alloc _).alloc _) (Ext.refl _ _))).mono ?_
    rw [hr]
    rintro e w1 ⟨rfl, hk1⟩
    have HO1 := Lib.hid ((((Own.new w _ [Value.slice A d.sec.length k0, Value.slice A' d.cache.length k1]).alloc _).alloc _).kept hk1)
    have HO2 := Lib.hid (((Own.new1 w _ _ [Value.int .i64 x.at_, .string x.data]).alloc _).kept hk1)
    have HO3 := Lib.hid ((Own.new2 w _ _ _ [Value.slice none 0 0, Value.slice none 0 0]).kept hk1)
    have hkw1 : Kept w w1 := ((((Kept.refl w).alloc _).alloc _).alloc _).trans hk1
    clear hk1
    obtain ⟨q1, q2, _, _⟩ := HO1.out.two
    obtain ⟨q3, q4, _, _⟩ := HO2.out.two
    clear q1 q2 q3 q4
    obtain ⟨p1, p2, p3, p4⟩ := HO3.out.two
    go_wp2
    have ho6 := HO3.out.put2 (.slice none 0 0) (.slice none 0 0)
    obtain ⟨r1, r2, _, _⟩ := ho6.two
    refine bodyPost_ret (v := .tuple #[.agg #[.slice none 0 0, .slice none 0 0], .bool false]) ?_ rfl ?_
    · simp [results, Tryd.results62, go_sem, r1, r2]
    · rw [HR.out]
      exact ⟨_, _, rfl, ⟨_, _, rfl, strsAt_nil _ _, wrsAt_nil _ _⟩, (hkw1.setCell (by simp; omega) _).setCell (by simp; omega) _⟩
end Go.Proofs.YtagpimahicgkmaaDoor
