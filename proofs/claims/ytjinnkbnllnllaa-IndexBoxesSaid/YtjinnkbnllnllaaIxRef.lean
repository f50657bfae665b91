/- Walk: mailsacklaw15.ref. -/
import Derived.Test.YtjinnkbnllnllaaIxAppE
import Derived.Test.YtjinnkbnllnllaaElem
namespace Go.Proofs.Ytjinnkbnllnllaa
open Go.RowKit

theorem Try.elRm : Elem Try.prog 41 73 4 32 mlc :=
  Elem.of (z := .agg #[.int .i64 0, .int .i64 0, .int .i64 0, .int .i64 0]) (by kernel_rfl) (by kernel_rfl) rfl (by omega) mlc_four
theorem Try.elRb : Elem Try.prog 27 43 4 56 bxc :=
  Elem.of (z := .agg #[.string .empty, .int .i64 0, .int .i64 0, .slice none 0 0]) (by kernel_rfl) (by kernel_rfl) rfl (by omega) bxc_four

/-- An index lies within reach of memory. -/
def Room (x : Ix) : Prop := x.boxes.length * 56 ≤ 140737488355328 ∧ ∀ b ∈ x.boxes, b.mails.length * 32 ≤ 140737488355328
theorem MlsAt.appd {V U : List Nat} {w w' : World} {u v v' : Value} {l : List Ml} (h : MlsAt (ownL v ++ V) w u l) (g : w.grownBy w' v.ownBlock) (hat : v'.ownBlock = v.ownBlock ∨ v'.ownBlock = some w.heap.size) (hU : Ext U w V) : MlsAt (ownL v' ++ U) w' u l := by
  obtain ⟨A, c, e, h1, h2, h3⟩ := h; exact ⟨A, c, e, h1, h2, h3.appd g hat hU⟩
def RefPost (V : List Nat) (x : Ix) (sv : Value) (w : World) (e : Ending) (w' : World) : Prop :=
  ∃ (B : Option Addr) (b : Nat) (ps : List Bp), e = .returned (.agg #[.slice B x.boxes.length b, sv, .int .i64 x.given]) ∧ ps.map (·.1) = x.boxes ∧
    w'.ownsRow w.heap.size 43 4 (.slice B x.boxes.length b) x.boxes.length (bxs ps) ∧ (∀ p ∈ ps, MlsAt (ownL (.slice B x.boxes.length b) ++ V) w' p.2 p.1.mails) ∧ Kept w w'
theorem take_snoc {α : Type} (l : List α) (k : Nat) (h : k < l.length) : l.take k ++ [l[k]] = l.take (k + 1) := by rw [List.take_succ_eq_append_getElem h]

def RefMid (V : List Nat) (x : Ix) (w : World) (k n : Nat) (gv : Int) (SA : Option Addr) (sn sc : Nat) (B : Option Addr) (b : Nat) (ps : List Bp) (wr : World) : Prop :=
  Own wr (w.heap.size + 1) 29 [.slice none 0 0, .slice none 0 0, .int .i64 0] ∧ Own wr (w.heap.size + 1 + 1) 29 [.slice B k b, .slice SA sn sc, .int .i64 gv] ∧
  wr.ownsRow (w.heap.size + 1 + 1 + 1) 43 4 (.slice B k b) k (bxs ps) ∧ ps.map (·.1) = x.boxes.take k ∧
  (∀ p ∈ ps, MlsAt (ownL (.slice B k b) ++ ((w.heap.size + 1) :: (w.heap.size + 1 + 1) :: V)) wr p.2 p.1.mails) ∧ Kept w wr

set_option maxRecDepth 100000 in
set_option maxHeartbeats 2000000 in
theorem ref_any (V : List Nat) (x : Ix) (bv sv : Value) (w : World) (h : BxsAt [] w bv x.boxes) (hs : ∃ A n c, sv = .slice A n c) (hroom : Room x) (hV : Old V w) :
    Calls Try.prog 9 #[.agg #[bv, sv, .int .i64 x.given]] w (RefPost V x sv w) := by
  obtain ⟨A, c, rfl, hc1, hc2, hbx⟩ := h.open_
  obtain ⟨SA, sn, sc, rfl⟩ := hs
  obtain ⟨hr1, hr2⟩ := hroom
  have HR2 := Lib.hid hr2
  have HBX := Lib.hid hbx
  clear hbx h hr2
  unfold maxLen at hc2
  generalize hn : x.boxes.length = n at *
  have HN := Lib.hid hn
  clear hn
  generalize hgv : x.given = gv at *
  have HGV := Lib.hid hgv
  clear hgv
  go_enter Try.func9, Try.ntmps9
  go_wp2
  go_loopw [17] (fun iv wr => ∃ k : Nat, k ≤ n ∧ iv = .int .i64 k ∧ ∃ (B : Option Addr) (b : Nat) (ps : List Bp), RefMid V x w k n gv SA sn sc B b ps wr) (fun iv _ => n - (intOf iv).toNat)
  case atStart =>
    exact ⟨0, Nat.zero_le _, rfl, none, 0, [], (Own.new1 w _ _ [_, _, _]).alloc _, Own.new2 w _ _ _ [_, _, _], ⟨by simp [bxs], .inl ⟨rfl, rfl⟩⟩, by simp, (fun p hp => by cases hp), (((Kept.refl w).alloc _).alloc _).alloc _⟩
  case round =>
    obtain ⟨k, hk, rfl, B, b, ps, hor, hoy, hown, hps, hml, hkw⟩ := hrel
    have HOR := Lib.hid hor
    have HOY := Lib.hid hoy
    have HOW := Lib.hid hown
    have HPS := Lib.hid hps
    have HML := Lib.hid hml
    have hyl := hoy.lt
    have hrl := hor.lt
    obtain ⟨y1, y2, y3, y4, y5, y6⟩ := hoy.three
    clear hor hoy hown hps hml
    by_cases hlt : k < n
    · obtain ⟨bb, o, mv, rfl, hb, _, hbc⟩ := HBX.out (by omega)
      have hk' : k < x.boxes.length := by rw [HN.out]; exact hlt
      obtain ⟨g1, g2, g3, g4, gm⟩ := hbc.go hb hkw (Ext.refl _ _) k hk'
      obtain ⟨MA, mc, hmv⟩ := gm.form
      rw [hmv] at g4 gm
      have hm32 := HR2.out x.boxes[k] (List.getElem_mem hk')
      have HTS := Lib.hid (take_snoc x.boxes k hk')
      clear hbc hmv
      generalize x.boxes[k] = bx at *
      obtain ⟨MA', mc', e, hm1, hm2, hmr⟩ := gm
      cases e
      unfold maxLen at hm2
      have HMR := Lib.hid hmr
      clear hmr
      obtain ⟨bn, bl, bt, ml⟩ := bx
      simp only at *
      generalize hmn : ml.length = mn at *
      have HMN := Lib.hid hmn
      clear hmn
      obtain ⟨wo, hwo⟩ : ∃ z, z = wr := ⟨_, rfl⟩
      subst hwo
      go_wp2
      go_loopw [31] (fun iv wi => ∃ j : Nat, j ≤ mn ∧ iv = .int .i64 j ∧ ∃ (C : Option Addr) (d : Nat), Own wi (wo.heap.size + 1) 43 [.string bn, .int .i64 bl, .int .i64 bt, .slice C j d] ∧ wi.ownsRow (wo.heap.size + 1 + 1) 73 4 (.slice C j d) j (mls (ml.take j)) ∧ Kept wo wi) (fun iv _ => mn - (intOf iv).toNat)
      case atStart =>
        exact ⟨0, Nat.zero_le _, rfl, none, 0, Own.new1 wo _ _ [_, _, _, _], ⟨by simp [mls], .inl ⟨rfl, rfl⟩⟩, ((Kept.refl wo).alloc _).alloc _⟩
      case round =>
        obtain ⟨j, hj, rfl, C, d, hoc, hcw, hki⟩ := hrel
        have HOC := Lib.hid hoc
        have HCW := Lib.hid hcw
        have hcl := hoc.lt
        obtain ⟨d1, d2, d3, d4⟩ := hoc.four'
        have d5 := hoc.frozen 3
        clear hoc hcw y1 y2 y3 y4 y5 y6
        by_cases hjl : j < mn
        · obtain ⟨b', o', rfl, hb', _, hc'⟩ := HMR.out.kept hki (by rw [mls_length, HMN.out]; omega)
          have hj' : j < ml.length := by rw [HMN.out]; exact hjl
          obtain ⟨z1, z2, z3, z4⟩ := mls_at hj'
          have m1 : wr.cell? ⟨b', o' + j * 4, none⟩ = _ := hc' _ _ z1
          have m2 : wr.cell? ⟨b', o' + j * 4 + 1, none⟩ = _ := hc' _ _ z2
          have m3 : wr.cell? ⟨b', o' + j * 4 + 2, none⟩ = _ := hc' _ _ z3
          have m4 : wr.cell? ⟨b', o' + j * 4 + 3, none⟩ = _ := hc' _ _ z4
          have HTM := Lib.hid (take_snoc ml j hj')
          have HTL : Hid ((ml.take j).length = j) := by show _ = _; rw [List.length_take]; omega
          clear hc' z1 z2 z3 z4
          generalize ml[j] = mm at *
          obtain ⟨u1, u2, u3, u4⟩ := mm
          simp only at m1 m2 m3 m4
          have HB3 := Lib.hid (fun bb (hb : (Value.slice C j d).ownBlock = some bb) => (ownBlock_of HCW.out hb).1)
          go_upto_region 10 with (at_builtin; go_must (
            refine Try.elRm.wpList_app rfl (.tmp 36) (.tmp 38) rfl (wo.heap.size + 1 + 1) _ (ml.take j) rfl (by rw [HTL.out]; exact (HCW.out.alloc _).alloc _) [] (some ⟨wr.heap.size + 1, 0, none⟩) 1 [⟨u1, u2, u3, u4⟩] rfl ((Own.new1 wr _ _ (mls [⟨u1, u2, u3, u4⟩])).row (by simp)) (mls_one _) (by rw [HTL.out]; unfold maxLen; simp; omega) (by rw [HTL.out]; simp; omega) (by simp; omega) ?_
            intro v3 w3 hown3 hg3 hat3
            obtain ⟨A3, c3, rfl, hc3, hm3, hr3⟩ := own_form (V := []) hown3 (by simp)
            have HOwn3 := Lib.hid hown3
            have HOC3 := Lib.hid (((HOC.out.alloc (.cells #[.int .i64 u1, .int .i64 u2, .int .i64 u3, .int .i64 u4] 47)).alloc (.cells (mls [⟨u1, u2, u3, u4⟩]).toArray 73)).appd hg3 (fun bb hb => by have := HB3.out bb hb; omega))
            have hkx : Kept wo w3 := ((hki.alloc _).alloc _).grown hg3 (fun bb hb => by have := HB3.out bb hb; omega)
            have hlen : (ml.take j ++ [(⟨u1, u2, u3, u4⟩ : Ml)]).length = j + 1 := by rw [HTM.out, List.length_take]; omega
            have HLen := Lib.hid hlen
            rw [hlen]
            clear hown3 hg3 hr3 hat3 hlen d1 d2 d3 d4 d5
            obtain ⟨d1, d2, d3, d4⟩ := HOC3.out.four'
            have d5 := HOC3.out.frozen 3))
          go_wp2
          go_roundw
          case rel =>
            refine ⟨j + 1, by omega, by go_num, A3, c3, HOC3.out.set_ 3 _, ?_, hkx.setCell (by simp) _⟩
            have := ownsRow_setCell_below HOwn3.out (a := ⟨wo.heap.size + 1, 3, none⟩) (by simp) (.slice A3 (j + 1) c3)
            rw [HLen.out, HTM.out] at this
            exact this
          case measure => simp [intOf]; omega
        · obtain rfl : j = mn := by omega
          have HOY2 := Lib.hid (HOY.out.kept hki)
          have HOR2 := Lib.hid (HOR.out.kept hki)
          have HOW2 := Lib.hid (ownsRow_kept HOW.out hki)
          have hkw2 := hkw.trans hki
          have HMV : Hid (MlsAt (ownL (.slice B k b) ++ ((w.heap.size + 1) :: (w.heap.size + 1 + 1) :: V)) wr (.slice C j d) ml) := by
            have hcw := HCW.out
            rw [List.take_of_length_le (by rw [HMN.out]; omega)] at hcw
            obtain ⟨C', d', e, f1, f2, f3⟩ := own_form (V := ownL (.slice B k b) ++ ((w.heap.size + 1) :: (w.heap.size + 1 + 1) :: V)) hcw (fun i hi => by
              rcases List.mem_append.1 hi with hi | hi
              · have := (HOW.out.lt i (by unfold ownL at hi; simpa using hi)).2; omega
              · rcases List.mem_cons.1 hi with rfl | hi
                · omega
                · rcases List.mem_cons.1 hi with rfl | hi
                  · omega
                  · have := hV i hi; have := hkw.size; omega)
            cases e
            exact ⟨C, d, by rw [HMN.out], by rw [HMN.out]; exact f1, f2, f3⟩
          have HML2 : Hid (∀ p ∈ ps ++ [(⟨bn, bl, bt, ml⟩, .slice C j d)], MlsAt (ownL (.slice B k b) ++ ((w.heap.size + 1) :: (w.heap.size + 1 + 1) :: V)) wr p.2 p.1.mails) := fun p hp => by
            rcases List.mem_append.1 hp with hp | hp
            · exact (HML.out p hp).go hki (Ext.refl _ _)
            · rw [List.mem_singleton.1 hp]; exact HMV.out
          have HPS2 : Hid ((ps ++ [((⟨bn, bl, bt, ml⟩ : Bx), Value.slice C j d)]).map (·.1) = x.boxes.take (k + 1)) := by
            show _ = _
            rw [List.map_append, HPS.out, ← HTS.out]; rfl
          have hpl : ps.length = k := by have := congrArg List.length HPS.out; rw [List.length_map, List.length_take, HN.out] at this; omega
          have HPL := Lib.hid hpl
          have HB4 := Lib.hid (fun bb (hb : (Value.slice B k b).ownBlock = some bb) => (ownBlock_of HOW2.out hb).1)
          have hyl2 := HOY2.out.lt
          have hrl2 := HOR2.out.lt
          obtain ⟨y1, y2, y3, y4, y5, y6⟩ := HOY2.out.three
          clear HMR HCW HOY HOR HOW HML hpl
          go_upto_region 12 with (at_builtin; go_must (
            refine Try.elRb.wpList_app rfl (.tmp 43) (.tmp 45) rfl (w.heap.size + 1 + 1 + 1) _ ps rfl (by rw [HPL.out]; exact HOW2.out.alloc _) [] (some ⟨wr.heap.size, 0, none⟩) 1 [(⟨bn, bl, bt, ml⟩, .slice C j d)] rfl ((Own.new wr _ (bxs [(⟨bn, bl, bt, ml⟩, .slice C j d)])).row (by simp)) (bxs_one _ (fun p hp => by rw [List.mem_singleton.1 hp]; exact ⟨_, _, _, rfl⟩)) (by rw [HPL.out]; unfold maxLen; simp; omega) (by rw [HPL.out]; simp; omega) (by simp; omega) ?_
            intro v3 w3 hown3 hg3 hat3
            obtain ⟨A3, c3, rfl, hc3, hm3, hr3⟩ := own_form (V := []) hown3 (by simp)
            have hlen : (ps ++ [((⟨bn, bl, bt, ml⟩ : Bx), Value.slice C j d)]).length = k + 1 := by rw [List.length_append, HPL.out]; rfl
            rw [hlen] at hown3 hat3 ⊢
            have HOwn3 := Lib.hid hown3
            have HOY3 := Lib.hid ((HOY2.out.alloc (.cells (bxs [(⟨bn, bl, bt, ml⟩, .slice C j d)]).toArray 43)).appd hg3 (fun bb hb => by have := HB4.out bb hb; omega))
            have HOR3 := Lib.hid ((HOR2.out.alloc (.cells (bxs [(⟨bn, bl, bt, ml⟩, .slice C j d)]).toArray 43)).appd hg3 (fun bb hb => by have := HB4.out bb hb; omega))
            have hkx : Kept w w3 := (hkw2.alloc _).grown hg3 (fun bb hb => by have := HB4.out bb hb; omega)
            have HML3 : Hid (∀ p ∈ ps ++ [(⟨bn, bl, bt, ml⟩, .slice C j d)], MlsAt (ownL (.slice A3 (k + 1) c3) ++ ((w.heap.size + 1) :: (w.heap.size + 1 + 1) :: V)) w3 p.2 p.1.mails) := fun p hp =>
              ((HML2.out p hp).go ((Kept.refl wr).alloc (.cells (bxs [(⟨bn, bl, bt, ml⟩, .slice C j d)]).toArray 43)) (Ext.refl _ _)).appd hg3 hat3 (Ext.refl _ _)
            clear hown3 hg3 hr3 hat3 hlen y1 y2 y3 y4 y5 y6
            obtain ⟨y1, y2, y3, y4, y5, y6⟩ := HOY3.out.three))
          go_wp2
          go_roundw
          case rel =>
            refine ⟨k + 1, by omega, by go_num, A3, c3, _, HOR3.out.far (by simp) _, HOY3.out.set_ 0 _, ownsRow_setCell_below HOwn3.out (a := ⟨w.heap.size + 1 + 1, 0, none⟩) (by simp) _, HPS2.out, fun p hp => (HML3.out p hp).put (p := ⟨w.heap.size + 1 + 1, 0, none⟩) (by simp) _, hkx.setCell (by simp; omega) _⟩
          case measure => simp [intOf]; omega
    · obtain rfl : k = n := by omega
      obtain ⟨r1, r2, r3, r4, r5, r6⟩ := HOR.out.three
      go_wp2
      have ho3 := HOR.out.put3' (.slice B k b) (.slice SA sn sc) (.int .i64 gv)
      obtain ⟨s1, s2, s3, _, _, _⟩ := ho3.three
      refine bodyPost_ret (v := .agg #[.slice B k b, .slice SA sn sc, .int .i64 gv]) (by simp [results, Try.results9, go_sem, s1, s2, s3]) rfl ?_
      have hps := HPS.out
      rw [List.take_of_length_le (by rw [HN.out]; omega)] at hps
      have hne : (Value.slice B k b).ownBlock ≠ some (w.heap.size + 1) := fun e => by have := (HOW.out.lt _ e).1; omega
      refine ⟨B, b, ps, by rw [HN.out, HGV.out], hps, ?_, ?_, ((hkw.setCell (p := ⟨w.heap.size + 1, 0, none⟩) (by simp) _).setCell (p := ⟨w.heap.size + 1, 1, none⟩) (by simp) _).setCell (p := ⟨w.heap.size + 1, 2, none⟩) (by simp) _⟩
      · rw [HN.out]
        exact World.ownsRow.mono (ownsRow_setCell_other (ownsRow_setCell_other (ownsRow_setCell_other HOW.out (a := ⟨w.heap.size + 1, 0, none⟩) hne _) (a := ⟨w.heap.size + 1, 1, none⟩) hne _) (a := ⟨w.heap.size + 1, 2, none⟩) hne _) (by omega)
      · rw [HN.out]
        intro p hp
        exact ((((HML.out p hp).put (p := ⟨w.heap.size + 1, 0, none⟩) (by simp) _).put (p := ⟨w.heap.size + 1, 1, none⟩) (by simp) _).put (p := ⟨w.heap.size + 1, 2, none⟩) (by simp) _).go (Kept.refl _) (fun i hi => .inl (by
          rcases List.mem_append.1 hi with hi | hi
          · exact List.mem_append.2 (.inl hi)
          · exact List.mem_append.2 (.inr (List.mem_cons_of_mem _ (List.mem_cons_of_mem _ hi)))))
end Go.Proofs.Ytjinnkbnllnllaa
