/- Walk: disk.Put. -/
import Derived.Test.YtagpimahicgkmaaDoorDkRight
import Derived.Test.YtagpimahicgkmaaDoorApp
import Derived.Deep.Cut
namespace Go.Proofs.YtagpimahicgkmaaDoor
open Go.RowKit

theorem Tryd.infoWr : (Tryd.prog.info? 38).map (fun i => (i.zero, i.size, i.bytes)) = some (some (.agg #[.int .i64 0, .string .empty]), 2, 24) := by kernel_rfl

theorem wrs_one (l : List Wr) : ∀ v ∈ wrs l, v.oneCell' = true := by
  intro v hv; simp only [wrs, List.mem_flatMap] at hv; obtain ⟨s, _, hv⟩ := hv
  simp at hv; rcases hv with rfl | rfl <;> rfl
theorem wrs_append (a b : List Wr) : wrs (a ++ b) = wrs a ++ wrs b := by simp [wrs]

/-- 'append' to a row of writes that the call owns. -/
theorem wpList_app_wr {w : World} {ops : Array Oper} {rest : List Oper} {o : Oper} {a : Act} {Q : Exit → Act → World → Prop} (hgd : o.guard = none) (s x : Operand)
    (ho : o.op = .call { callee := .builtin .append, args := #[s, x], argTypes := #[23, 23] })
    (base : Nat) (v : Value) (l : List Wr) (hs : a.eval s = v) (hown : w.ownsRow base 38 2 v l.length (wrs l))
    (V : List Nat) (A : Option Addr) (c : Nat) (m : List Wr) (hx : a.eval x = .slice A m.length c) (hr : Row V w A (wrs m)) (h63 : l.length + m.length ≤ 1000000) (hbase : base ≤ w.heap.size)
    (h : ∀ v' w', w'.ownsRow base 38 2 v' (l ++ m).length (wrs (l ++ m)) → w.grownBy w' v.ownBlock → (v'.ownBlock = v.ownBlock ∨ v'.ownBlock = some w.heap.size) → wpList Tryd.prog ops Q rest (a.put o.dst v') w') : wpList Tryd.prog ops Q (o :: rest) a w := by
  obtain ⟨i, hi, hz, hsz, hb⟩ := info_parts Tryd.infoWr
  refine wpList_append_any w hgd s x _ ho base _ i _ 2 24 Tryd.underlying23 hi hz hsz hb rfl (by omega) v l.length (wrs l) hs hown V A m.length c (wrs m) hx (wrs_length m) hr (wrs_one m) (by unfold maxLen; omega) (by omega) hbase ?_
  intro v' w' h1 h2 h3
  exact h v' w' (by rw [wrs_append, List.length_append]; exact h1) h2 h3

theorem run_mkWrs (n : Nat) (hn : n ≤ 1000000) : ∃ cs : Array Value, cs.size = (n + 1) * 2 ∧ ∀ W : World, (Instr.makeSlice 23 (.int .i64 0) (.int .i64 ((n : Int) + 1))).run Tryd.prog W =
    .ok (.slice (some ⟨W.heap.size, 0, none⟩) 0 (n + 1)) (W.alloc (.cells cs 38)) := by
  obtain ⟨i, hi, hz, hs, hb⟩ := info_parts Tryd.infoWr
  refine ⟨madeCells #[.int .i64 0, .string .empty] ((n + 1) * 2), size_madeCells _ _, fun W => ?_⟩
  have := run_make (P := Tryd.prog) W 23 38 i _ Tryd.underlying23 hi hz .i64 .i64 0 ((n : Int) + 1) (by omega) (by omega) (by rw [hb]; omega) (by omega)
  rw [this, hs]
  rfl

def putR (d : Dk) (x : Wr) : Dk × Int := if rightB d && fitsB x d.sec.length then (⟨d.sec, d.cache ++ [x]⟩, 0) else (⟨[], []⟩, 1)

set_option maxHeartbeats 400000 in
theorem put_any (V : List Nat) (d : Dk) (x : Wr) (v : Value) (w : World) (h : DkAt V w v d) (hV : Old V w) (hcs : d.cache.length ≤ 100000) :
    Calls Tryd.prog 66 #[v, .agg #[.int .i64 x.at_, .string x.data]] w fun e w' => ∃ s' c', e = .returned (.tuple #[.agg #[s', c'], .int .i64 (putR d x).2]) ∧ DkAt V w' (.agg #[s', c']) (putR d x).1 ∧ Kept w w' := by
  have H := Lib.hid h
  obtain ⟨s, c, rfl, ⟨A, k0, rfl, hl, hm, hs⟩, ⟨A', k1, rfl, hl', hm', hc⟩⟩ := h
  unfold maxLen at hm hm'
  have HS := Lib.hid hs
  have HC := Lib.hid hc
  clear hs hc
  obtain ⟨cs, hcs1, hmk⟩ := run_mkWrs d.cache.length (by omega)
  have HCS := Lib.hid hcs1
  clear hcs1
  rcases Bool.eq_false_or_eq_true (rightB d) with hr | hr
  · rcases Bool.eq_false_or_eq_true (fitsB x d.sec.length) with hf | hf
    · go_enter Tryd.func66, Tryd.ntmps66
      go_wp2_with fail
      refine (right_any V d _ _ (H.out.go ((((Kept.refl w).alloc _).alloc _).alloc _) (Ext.refl _ _))).mono ?_
      rintro e w1 ⟨rfl, hk1⟩
      have HO1 := Lib.hid ((((Own.new w _ [Value.slice A d.sec.length k0, Value.slice A' d.cache.length k1]).alloc _).alloc _).kept hk1)
      have HO2 := Lib.hid (((Own.new1 w _ _ [Value.int .i64 x.at_, .string x.data]).alloc _).kept hk1)
      have HO3 := Lib.hid ((Own.new2 w _ _ _ [Value.slice none 0 0, Value.slice none 0 0]).kept hk1)
      have hkw1 : Kept w w1 := ((((Kept.refl w).alloc _).alloc _).alloc _).trans hk1
      clear hk1
      obtain ⟨q1, q2, _, _⟩ := HO1.out.two
      obtain ⟨q3, q4, _, _⟩ := HO2.out.two
      go_wp2_with fail
      refine (fits_any x _ _).mono ?_
      rintro e w2 ⟨rfl, hk2⟩
      have hkw2 : Kept w w2 := hkw1.trans hk2
      have HO1' := Lib.hid (HO1.out.kept hk2)
      have HO2' := Lib.hid (HO2.out.kept hk2)
      have HO3' := Lib.hid (HO3.out.kept hk2)
      clear q1 q2 q3 q4
      obtain ⟨q1, q2, _, _⟩ := HO1'.out.two
      obtain ⟨q3, q4, _, _⟩ := HO2'.out.two
      have hsz0 : w.heap.size < w2.heap.size := HO1'.out.lt
      have hsz1 : w.heap.size + 1 < w2.heap.size := HO2'.out.lt
      have hsz2 : w.heap.size + 1 + 1 < w2.heap.size := HO3'.out.lt
      have HOwn0 : Hid ((w2.alloc (.cells cs 38)).ownsRow w2.heap.size 38 2 (.slice (some ⟨w2.heap.size, 0, none⟩) 0 (d.cache.length + 1)) ([] : List Wr).length (wrs [])) :=
        World.ownsRow_made w2 _ _ (Nat.le_refl _) (by unfold maxLen; omega) HCS.out
      go_upto_region 5 with (at_builtin; go_must (refine wpList_app_wr rfl (.tmp 24) (.tmp 26) rfl w2.heap.size _ [] rfl HOwn0.out V A' k1 d.cache rfl (HC.out.kept (hkw2.alloc _)) (by simp; omega) (by simp) ?_; intro v3 w3 hown3 hg3 hat3))
      obtain ⟨A3, c3, rfl, hc3, hm3, hr3⟩ := own_form (V := []) hown3 (by simp)
      have HOwn3 := Lib.hid hown3
      have HO1'' := Lib.hid ((HO1'.out.alloc (.cells cs 38)).appd hg3 (fun b hb => by have := ownBlock_eq hb; omega))
      have HO2'' := Lib.hid ((HO2'.out.alloc (.cells cs 38)).appd hg3 (fun b hb => by have := ownBlock_eq hb; omega))
      have HO3'' := Lib.hid ((HO3'.out.alloc (.cells cs 38)).appd hg3 (fun b hb => by have := ownBlock_eq hb; omega))
      have hkw3 : Kept w w3 := (hkw2.alloc _).grown hg3 (fun k hk => by have := ownBlock_eq hk; omega)
      have hw23 : w2.heap.size ≤ w3.heap.size := Nat.le_trans (by simp) hg3.size
      clear hown3 hg3 hr3 q1 q2 q3 q4
      obtain ⟨q1, q2, _, _⟩ := HO1''.out.two
      obtain ⟨q3, q4, _, _⟩ := HO2''.out.two
      go_upto_region 6 with (at_builtin; go_must (refine wpList_app_wr rfl (.tmp 28) (.tmp 30) rfl w2.heap.size _ d.cache rfl (HOwn3.out.alloc _) [] (some ⟨w3.heap.size, 0, none⟩) 1 [x] rfl ((Own.new w3 _ (wrs [x])).row (by simp)) (by simp; omega) (by simp; omega) ?_; intro v4 w4 hown4 hg4 hat4))
      obtain ⟨A4, c4, rfl, hc4, hm4, hr4⟩ := own_form (V := (w.heap.size + 1 + 1) :: V) hown4 (Old.cons hsz2 (hV.go hkw2))
      have hb3 : ∀ b, (Value.slice A3 ([] ++ d.cache).length c3).ownBlock = some b → w2.heap.size ≤ b := fun b hb => (ownBlock_of HOwn3.out hb).1
      have HO1x := Lib.hid ((HO1''.out.alloc (.cells #[.int .i64 x.at_, .string x.data] 38)).appd hg4 (fun b hb => by have := hb3 b hb; omega))
      have HO3x := Lib.hid ((HO3''.out.alloc (.cells #[.int .i64 x.at_, .string x.data] 38)).appd hg4 (fun b hb => by have := hb3 b hb; omega))
      have hkw4 : Kept w w4 := (hkw3.alloc _).grown hg4 (fun k hk => by have := hb3 k hk; omega)
      have HS4 := Lib.hid (HS.out.go hkw4 (Ext.cons (k := w.heap.size + 1 + 1) (by omega) (Ext.refl _ _)))
      have HR4 := Lib.hid hr4
      clear q1 q2 q3 q4 hown4 hg4 hb3 hr4 hat4 hat3
      obtain ⟨q1, q2, _, _⟩ := HO1x.out.two
      obtain ⟨p1, p2, p3, p4⟩ := HO3x.out.two
      go_wp2
      have ho6 := HO3x.out.put2 (.slice A d.sec.length k0) (.slice A4 (d.cache ++ [x]).length c4)
      obtain ⟨r1, r2, _, _⟩ := ho6.two
      refine bodyPost_ret (v := .tuple #[.agg #[.slice A d.sec.length k0, .slice A4 (d.cache ++ [x]).length c4], .int .i64 0]) ?_ rfl ?_
      · simp [results, Tryd.results66, go_sem] at r1 r2 ⊢
        simp [go_sem, r1, r2]
      · simp only [putR, hr, hf, Bool.and_self, if_true]
        refine ⟨_, _, rfl, ?_, ((hkw4.setCell (by simp; omega) _).setCell (by simp; omega) _)⟩
        have hD : DkAt ((w.heap.size + 1 + 1) :: V) w4 (.agg #[.slice A d.sec.length k0, .slice A4 (d.cache ++ [x]).length c4]) ⟨d.sec, d.cache ++ [x]⟩ :=
          ⟨_, _, rfl, ⟨A, k0, rfl, hl, by unfold maxLen; omega, HS4.out⟩, ⟨A4, c4, rfl, hc4, hm4, HR4.out⟩⟩
        exact ((hD.put (by simp) _).put (by simp) _).weak (fun _ h => List.mem_cons_of_mem _ h)
    · have HR : Hid (putR d x = (⟨[], []⟩, 1)) := by show _ = _; simp [putR, hf]
      go_enter Tryd.func66, Tryd.ntmps66
      go_wp2_with fail
      refine (right_any V d _ _ (H.out.go ((((Kept.refl w).alloc _).alloc _).alloc _) (Ext.refl _ _))).mono ?_
      rintro e w1 ⟨rfl, hk1⟩
      have HO1 := Lib.hid ((((Own.new w _ [Value.slice A d.sec.length k0, Value.slice A' d.cache.length k1]).alloc _).alloc _).kept hk1)
      have HO2 := Lib.hid (((Own.new1 w _ _ [Value.int .i64 x.at_, .string x.data]).alloc _).kept hk1)
      have HO3 := Lib.hid ((Own.new2 w _ _ _ [Value.slice none 0 0, Value.slice none 0 0]).kept hk1)
      have hkw1 : Kept w w1 := ((((Kept.refl w).alloc _).alloc _).alloc _).trans hk1
      clear hk1
      obtain ⟨q1, q2, _, _⟩ := HO1.out.two
      obtain ⟨q3, q4, _, _⟩ := HO2.out.two
      go_wp2_with fail
      refine (fits_any x _ _).mono ?_
      rintro e w2 ⟨rfl, hk2⟩
      have HO3' := Lib.hid (HO3.out.kept hk2)
      clear q1 q2 q3 q4
      obtain ⟨p1, p2, p3, p4⟩ := HO3'.out.two
      go_wp2
      have ho6 := HO3'.out.put2 (.slice none 0 0) (.slice none 0 0)
      obtain ⟨r1, r2, _, _⟩ := ho6.two
      refine bodyPost_ret (v := .tuple #[.agg #[.slice none 0 0, .slice none 0 0], .int .i64 1]) ?_ rfl ?_
      · simp [results, Tryd.results66, go_sem, r1, r2]
      · rw [HR.out]
        exact ⟨_, _, rfl, ⟨_, _, rfl, strsAt_nil _ _, wrsAt_nil _ _⟩, ((hkw1.trans hk2).setCell (by simp; omega) _).setCell (by simp; omega) _⟩
  · have HR : Hid (putR d x = (⟨[], []⟩, 1)) := by show _ = _; simp [putR, hr]
    go_enter Tryd.func66, Tryd.ntmps66
    go_wp2_with fail
    refine (right_any V d _ _ (H.out.go ((((Kept.refl w).alloc _).alloc _).alloc _) (Ext.refl _ _))).mono ?_
    rintro e w1 ⟨rfl, hk1⟩
    have HO3 := Lib.hid ((Own.new2 w _ _ _ [Value.slice none 0 0, Value.slice none 0 0]).kept hk1)
    have hkw1 : Kept w w1 := ((((Kept.refl w).alloc _).alloc _).alloc _).trans hk1
    clear hk1
    obtain ⟨p1, p2, p3, p4⟩ := HO3.out.two
    go_wp2
    have ho6 := HO3.out.put2 (.slice none 0 0) (.slice none 0 0)
    obtain ⟨r1, r2, _, _⟩ := ho6.two
    refine bodyPost_ret (v := .tuple #[.agg #[.slice none 0 0, .slice none 0 0], .int .i64 1]) ?_ rfl ?_
    · simp [results, Tryd.results66, go_sem, r1, r2]
    · rw [HR.out]
      exact ⟨_, _, rfl, ⟨_, _, rfl, strsAt_nil _ _, wrsAt_nil _ _⟩, (hkw1.setCell (by simp; omega) _).setCell (by simp; omega) _⟩
end Go.Proofs.YtagpimahicgkmaaDoor
