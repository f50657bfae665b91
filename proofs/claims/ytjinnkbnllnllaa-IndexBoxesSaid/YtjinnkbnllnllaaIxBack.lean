/- Walk: mailsacklaw15.IndexBack. -/
import Derived.Test.YtjinnkbnllnllaaL15Awake
import Derived.Test.YtjinnkbnllnllaaL15Plain
namespace Go.Proofs.Ytjinnkbnllnllaa
open Go.RowKit

theorem refPost_ix {V : List Nat} {x : Ix} {w w' : World} {B : Option Addr} {b : Nat} {ps : List Bp} {sv : Value} (hps : ps.map (·.1) = x.boxes) (hown : w'.ownsRow w.heap.size 43 4 (.slice B x.boxes.length b) x.boxes.length (bxs ps)) (hml : ∀ p ∈ ps, MlsAt (ownL (.slice B x.boxes.length b) ++ V) w' p.2 p.1.mails) (hV : Old V w) (hs : StrsAt V w' sv x.subs) :
    IxAt V w' (.agg #[.slice B x.boxes.length b, sv, .int .i64 x.given]) x := by
  have hpl : ps.length = x.boxes.length := by rw [← hps, List.length_map]
  obtain ⟨B', b', e, h1, h2, h3⟩ := own_form (V := V) hown (fun k hk => hV k hk)
  cases e
  exact ⟨_, _, rfl, ⟨ps, hps, ⟨B, b, by rw [hpl], by rw [hpl]; exact h1, h2, h3⟩, fun p hp => (hml p hp).go (Kept.refl _) (fun k hk => .inl (List.mem_append.2 (.inr hk)))⟩, hs⟩
theorem app_ok {x : Ix} {a : Nat} {o s f : Int} (hok : IxOk x) (hm : mailB o s f = true) (ha : a < x.boxes.length) (hx : (bxAt x a).next < 4294967295) (hn : 1 ≤ (bxAt x a).next) : IxOk (appIx x a ⟨(bxAt x a).next, f, o, s⟩) := by
  obtain ⟨h1, h2, h3⟩ := hok
  have hb := h2 _ (List.getElem_mem ha)
  rw [← bxAt_lt ha] at hb
  refine ⟨h1, fun b hb' => ?_, h3⟩
  rcases List.mem_or_eq_of_mem_set hb' with hb' | rfl
  · exact h2 b hb'
  · refine ⟨hb.1, hb.2.1, ⟨by simp only [nextUp]; omega, by simp only [nextUp]; omega⟩, fun u hu => ?_⟩
    rcases List.mem_append.1 hu with hu | hu
    · exact hb.2.2.2 u hu
    · rw [List.mem_singleton.1 hu]
      simp only [mailB, posB, flagsB, Bool.and_eq_true, decide_eq_true_eq] at hm
      unfold MlOk I64
      simp only
      omega
theorem back_room {x : Ix} {a : Nat} (hr : rightB x = true) (ha : a < x.boxes.length) : Room (setBx x a (nextUp (bxAt x a) (bxAt x a).mails)) := by
  obtain ⟨h1, h2, _, _, h5, _⟩ := right_len hr
  have h30 : ∀ i, i < x.boxes.length → (bxAt x i).mails.length ≤ 30 := fun i hi => box_mails (allTo_iff.1 h5 i hi)
  refine ⟨by rw [setBx_len]; omega, fun b hb => ?_⟩
  rcases List.mem_or_eq_of_mem_set hb with hb | rfl
  · obtain ⟨i, hi, rfl⟩ := List.getElem_of_mem hb
    have := h30 i hi
    rw [bxAt_lt hi] at this
    omega
  · have := h30 a ha
    simp only [nextUp]; omega
theorem right_room {x : Ix} (hr : rightB x = true) : Room x := by
  obtain ⟨h1, h2, _, _, h5, _⟩ := right_len hr
  refine ⟨by omega, fun b hb => ?_⟩
  obtain ⟨i, hi, rfl⟩ := List.getElem_of_mem hb
  have := box_mails (allTo_iff.1 h5 i hi)
  rw [bxAt_lt hi] at this
  omega

def prevBp (p : Bp) : Bp := (⟨p.1.name, p.1.val, p.1.next - 1, p.1.mails⟩, p.2)
theorem bxs_prev {ps : List Bp} {k : Nat} (h : k < ps.length) {nx : Int} (hn : ps[k].1.next - 1 = nx) : (bxs ps).set (k * 4 + 2) (.int .i64 nx) = bxs (ps.set k (prevBp ps[k])) := by
  subst hn
  exact (flat4_set bxc bxc_four ps k 2 (by omega) (prevBp ps[k]) _ h rfl).symm

set_option maxRecDepth 100000 in
set_option maxHeartbeats 4000000 in
theorem back_any (x : Ix) (v : Value) (nm : ByteArray) (ob sz fl : Int) (w : World) (h : IxAt [] w v x) (hok : IxOk x) (hroom : Room x) (hob : I64 ob) (hnm : nm.size ≤ maxLen) :
    Calls Try.prog 3 #[v, .string nm, .int .i64 ob, .int .i64 sz, .int .i64 fl] w fun e w' => e = .returned (.bool true) ∧ Kept w w' := by
  have H := Lib.hid h
  have HOK := Lib.hid hok
  have HROOM := Lib.hid hroom
  have HOB := Lib.hid hob
  unfold maxLen at hnm
  obtain ⟨A, c, A', c', rfl, hc1, hc2, hc3, hc4, hbx, hrow⟩ := h.open_
  have HBX := Lib.hid hbx
  clear hbx hrow h hok hroom hob
  unfold maxLen at hc2 hc4
  have HP := Lib.hid H.out.parts
  generalize hn : x.boxes.length = n at *
  generalize hm : x.subs.length = m at *
  generalize hg : x.given = gv at *
  have HN := Lib.hid hn
  have HM := Lib.hid hm
  have HG := Lib.hid hg
  clear hn hm hg
  go_enter Try.func3, Try.ntmps3
  go_wp2_with fail
  have HRF0 : ∀ W, Kept w W → Calls Try.prog 9 #[.agg #[.slice A n c, .slice A' m c', .int .i64 gv]] W fun e w' => ∃ B b, e = .returned (.agg #[.slice B n b, .slice A' m c', .int .i64 gv]) ∧ IxAt [] w' (.agg #[.slice B n b, .slice A' m c', .int .i64 gv]) x ∧ Kept W w' := fun W hW => by
    have hc := ref_any [] x (.slice A n c) (.slice A' m c') W (HP.out.2.1.go hW (Ext.refl _ _)) ⟨_, _, _, rfl⟩ HROOM.out (fun k hk => by cases hk)
    rw [HG.out] at hc
    refine hc.mono ?_
    rintro e w1 ⟨B, b, ps, rfl, hps, hown, hml, hk⟩
    have := refPost_ix (V := []) hps hown hml (fun k hk => by cases hk) ((HP.out.2.2.go hW (Ext.refl _ _)).go hk (Ext.refl _ _))
    rw [HN.out, HG.out] at this
    exact ⟨B, b, by rw [HN.out, HG.out], this, hk⟩
  have HRF := Lib.hid HRF0
  clear HRF0
  refine (HRF.out _ ((Kept.refl w).alloc _)).mono ?_
  rintro e w1 ⟨B, b, rfl, hr1, hk1⟩
  have HR1 := Lib.hid hr1
  clear hr1
  go_wp2_with fail
  refine (small_any x _ _ HR1.out).mono ?_
  rintro e w2 ⟨rfl, hk2⟩
  have kx : Kept (w.alloc (.cells #[.slice A n c, .slice A' m c', .int .i64 gv] 25)) w2 := hk1.trans hk2
  have OX := Lib.hid ((Own.new w 25 [.slice A n c, .slice A' m c', .int .i64 gv]).kept kx)
  have hkw2 : Kept w w2 := ((Kept.refl w).alloc _).trans kx
  clear hk1 hk2 HR1 kx
  by_cases hsm : smallB x = false
  · rw [hsm]
    clear hsm
    go_wp2_with fail
    refine (awake_any _).mono ?_
    rintro e w3 ⟨rfl, hk3⟩
    go_wp2
    go_ret
    exact ⟨rfl, hkw2.trans hk3⟩
  replace hsm : smallB x = true := by simpa using hsm
  rw [hsm]
  have HSM := Lib.hid hsm
  clear hsm
  by_cases h100 : 100 < nm.size
  · have h100' : (100 : Int) < (nm.size : Int) := by omega
    go_wp2_with fail
    refine (awake_any _).mono ?_
    rintro e w3 ⟨rfl, hk3⟩
    go_wp2
    go_ret
    exact ⟨rfl, hkw2.trans hk3⟩
  obtain ⟨q1, q2, q3, _, _, _⟩ := OX.out.three
  have h100' : ¬ (100 : Int) < (nm.size : Int) := by omega
  go_wp2_with fail
  have HIX0 : ∀ W, Kept w W → IxAt [] W (.agg #[.slice A n c, .slice A' m c', .int .i64 gv]) x := fun W hW => H.out.go hW (Ext.refl _ _)
  have HIX := Lib.hid HIX0
  clear HIX0
  refine (app_any x _ nm ob sz fl w2 (HIX.out w2 hkw2) HOK.out HOB.out).mono ?_
  rintro e w3 ⟨v3, rfl, hv3, hk3⟩
  have OX3 := Lib.hid (OX.out.kept hk3)
  have hkw3 := hkw2.trans hk3
  clear OX q1 q2 q3 hk3 hkw2 h100 h100'
  rcases appR_cases x nm ob sz fl with ⟨er, he, hne⟩ | ⟨a, hr, hmb, hf, ha, ht, hnx, he⟩
  · rw [he] at hv3 ⊢
    obtain ⟨A3, c3, A3', c3', rfl⟩ := hv3.form
    clear hv3 he
    simp only [show ix0.boxes.length = 0 from rfl, show ix0.subs.length = 0 from rfl, show ix0.given = 0 from rfl]
    have hne' := bne_t hne
    clear hne
    go_wp2_with fail
    refine (awake_any _).mono ?_
    rintro e w4 ⟨rfl, hk4⟩
    go_wp2
    go_ret
    exact ⟨rfl, (hkw3.alloc _).trans hk4⟩
  · rw [he] at hv3 ⊢
    have HV3 := Lib.hid hv3
    obtain ⟨A3, c3, A3', c3', rfl⟩ := hv3.form
    have hn1 : 1 ≤ (bxAt x a).next := (boxB_parts (right_box hr ha)).2.2.2.1
    have hok3 := app_ok (a := a) HOK.out hmb ha hnx hn1
    have heb := exp_back hr hmb hf ha ht hnx
    have hrm := back_room hr ha
    rw [HN.out] at ha
    have HOK3 := Lib.hid hok3
    have HEB := Lib.hid heb
    have HRM := Lib.hid hrm
    have HF := Lib.hid hf
    have HL3 : Hid ((appIx x a ⟨(bxAt x a).next, fl, ob, sz⟩).boxes.length = n) := by show _ = _; rw [appIx_eq, setBx_len, HN.out]
    have HM3 : Hid ((appIx x a ⟨(bxAt x a).next, fl, ob, sz⟩).subs.length = m) := by show _ = _; exact HM.out
    have HG3 : Hid ((appIx x a ⟨(bxAt x a).next, fl, ob, sz⟩).given = gv) := by show _ = _; exact HG.out
    simp only [HL3.out, HM3.out, HG3.out] at HV3 ⊢
    clear hv3 he hok3 heb hrm hr hmb hf ht
    generalize appIx x a ⟨(bxAt x a).next, fl, ob, sz⟩ = y at *
    generalize hnxe : (bxAt x a).next = nx at *
    have HNX := Lib.hid hnxe
    clear hnxe
    go_wp2_with fail
    refine (exp_any y _ nm nx _ (HV3.out.go ((Kept.refl w3).alloc _) (Ext.refl _ _)) HOK3.out).mono ?_
    rintro e w4 ⟨v4, rfl, hv4, hk4⟩
    have OX4 := Lib.hid ((OX3.out.alloc (.cells #[.slice A3 n c3, .slice A3' m c3', .int .i64 gv] 25)).kept hk4)
    have hkw4 := (hkw3.alloc (.cells #[.slice A3 n c3, .slice A3' m c3', .int .i64 gv] 25)).trans hk4
    rw [HEB.out] at hv4 ⊢
    simp only at hv4 ⊢
    clear hk4 OX3 HV3 HOK3 HL3 HM3 HG3 HEB hkw3
    generalize hz : setBx x a (nextUp (bxAt x a) (bxAt x a).mails) = z at *
    have HZ := Lib.hid hz
    obtain ⟨A4, c4, A4', c4', rfl, hd1, hd2, hd3, hd4, hbz, _⟩ := hv4.open_
    have HZL : Hid (z.boxes.length = n) := by show _ = _; rw [← hz, setBx_len, HN.out]
    have HZS : Hid (z.subs.length = m) := by show _ = _; rw [← hz]; exact HM.out
    have HZG : Hid (z.given = gv) := by show _ = _; rw [← hz]; exact HG.out
    have HV4 := Lib.hid hv4
    have HBZ := Lib.hid hbz
    simp only [HZL.out, HZS.out, HZG.out] at HV4 hd1 hd3 HBZ ⊢
    unfold maxLen at hd2 hd4
    clear hv4 hbz hz
    obtain ⟨q1, q2, q3, _, _, _⟩ := OX4.out.three
    have hxl := OX4.out.lt
    go_wp2_with fail
    refine (find_any x _ nm _ (HIX.out _ (hkw4.alloc _))).mono ?_
    rw [HF.out]
    rintro e w5 ⟨rfl, hk5⟩
    have OX5 := Lib.hid ((OX4.out.alloc (.cells #[.slice A4 n c4, .slice A4' m c4', .int .i64 gv] 25)).kept hk5)
    have OZ5 := Lib.hid ((Own.new w4 25 [.slice A4 n c4, .slice A4' m c4', .int .i64 gv]).kept hk5)
    have k45 : Kept w4 w5 := ((Kept.refl w4).alloc _).trans hk5
    have hkw5 := hkw4.trans k45
    clear hk5 q1 q2 q3 OX4
    obtain ⟨q1, q2, q3, _, _, _⟩ := OX5.out.three
    obtain ⟨z1, z2, z3, _, _, _⟩ := OZ5.out.three
    obtain ⟨bb, o, mv, rfl, hb, _, hbc⟩ := HBX.out (by omega)
    have ha' : a < x.boxes.length := by rw [HN.out]; exact ha
    obtain ⟨_, _, g3, _, _⟩ := hbc.go hb hkw5 (Ext.refl _ _) a ha'
    obtain ⟨bz, oz, mz, rfl, hb4, _, hbc4⟩ := HBZ.out (by omega)
    have haz : a < z.boxes.length := by rw [HZL.out]; exact ha
    obtain ⟨_, _, g6, _, _⟩ := hbc4.go hb4 k45 (Ext.refl _ _) a haz
    have e3 : x.boxes[a].next = nx := by rw [← bxAt_lt ha']; exact HNX.out
    have e6 : z.boxes[a].next = nx + 1 := by
      rw [← bxAt_lt haz, ← HZ.out, bxAt_set_same ha']
      simp only [nextUp, HNX.out]
    rw [e3] at g3
    rw [e6] at g6
    have a0 : (0 : Int) ≤ (a : Int) := by omega
    have a1 : (a : Int) < (n : Int) := by omega
    have nxw : IntKind.i64.wrap (nx + 1) = nx + 1 := IntWalk.i64_in _ (by omega)
    clear hbc hbc4 e3 e6 HBX HBZ
    simp only [ofO]
    go_wp2_with fail
    go_quiet (fail)
    go_wp2_with fail
    have hkd : Kept w4 (w5.drewN nq) := k45.drewN nq
    have OXd := Lib.hid (OX5.out.drewN nq)
    have hkwd := hkw5.drewN nq
    clear OX5 OZ5 q1 q2 q3 z1 z2 z3 g3 g6 hkw5 k45
    generalize w5.drewN nq = wd at *
    have hrz := ref_any [] z (.slice (some ⟨bz, oz, none⟩) n c4) (.slice A4' m c4') wd (HV4.out.go hkd (Ext.refl _ _)).parts.2.1 ⟨_, _, _, rfl⟩ HRM.out (fun k hk => by cases hk)
    rw [HZG.out] at hrz
    refine hrz.mono ?_
    rintro e w6 ⟨R, rb, ps, rfl, hps, hown, hml, hk6⟩
    rw [HZL.out] at hown hml ⊢
    rw [HZG.out]
    obtain ⟨r, rb', e, hr1, hr2, hr3, hr4⟩ := ownBlock_of_row hown (by omega)
    cases e
    unfold maxLen at hr4
    have hpl : ps.length = n := by have := congrArg List.length hps; rw [List.length_map, HZL.out] at this; exact this
    have hpa : a < ps.length := by omega
    have hpz : ps[a].1 = nextUp (bxAt x a) (bxAt x a).mails := by
      have h1 : (ps.map (·.1))[a]? = some ps[a].1 := by simp [hpa]
      rw [hps, ← HZ.out, setBx, List.getElem?_set_self (by omega)] at h1
      injection h1 with h1
      exact h1.symm
    have c2 : w6.cell? ⟨r, a * 4 + 2, none⟩ = some (.int .i64 (nx + 1)) := by
      rw [World.ownsRow.cellAt hown _ (by omega)]
      have := (bxs_at hpa).2.2.1
      rw [hpz] at this
      simp only [nextUp, HNX.out] at this
      exact this
    have f2 := World.ownsRow.frozenAt hown (a * 4 + 2)
    have OW := Lib.hid hown
    have HPS := Lib.hid hps
    have HML := Lib.hid hml
    have HPZ := Lib.hid hpz
    have OX6 := Lib.hid (OXd.out.kept hk6)
    have hkw6 := hkwd.trans hk6
    have hk46 := hkd.trans hk6
    have hxl6 := OX6.out.lt
    have hzw := hkwd.size
    have hz4 := hkd.size
    clear hrz hown hps hml hpz OXd hkwd hkd hk6
    go_upto_region 12 with fail
    have hnp : ps[a].1.next - 1 = nx := by rw [HPZ.out]; simp only [nextUp, HNX.out]; omega
    have o2 := (World.ownsRow.stored OW.out (a * 4 + 2) (.int .i64 nx)).1
    rw [bxs_prev hpa hnp] at o2
    have hmp : (ps.set a (prevBp ps[a])).map (·.1) = x.boxes := by
      have h1 : (prevBp ps[a]).1 = bxAt x a := by unfold prevBp; rw [HPZ.out]; simp [nextUp]
      rw [List.map_set, HPS.out, h1, ← HZ.out]
      show (x.boxes.set a _).set a _ = _
      rw [List.set_set, bxAt_lt ha', List.set_getElem_self]
    have HIB : Hid (IxAt [] ((w6.setCell ⟨r, a * 4 + 2, none⟩ (.int .i64 nx)).alloc (.cells #[.slice (some ⟨r, 0, none⟩) n rb, .slice A4' m c4', .int .i64 gv] 29)) (.agg #[.slice (some ⟨r, 0, none⟩) n rb, .slice A4' m c4', .int .i64 gv]) x) := by
      obtain ⟨B7, b7, e7, h1, h2, h3⟩ := own_form (V := []) o2 (by simp)
      cases e7
      have hs4 : StrsAt [] w4 (.slice A4' m c4') x.subs := by have := HV4.out.parts.2.2; rw [← HZ.out] at this; exact this
      refine (show IxAt [] (w6.setCell ⟨r, a * 4 + 2, none⟩ (.int .i64 nx)) _ x from ⟨_, _, by rw [HG.out], ⟨ps.set a (prevBp ps[a]), hmp, ⟨_, _, by rw [List.length_set, hpl], by rw [List.length_set, hpl]; exact h1, h2, h3⟩, fun p hp => ?_⟩, ?_⟩).go ((Kept.refl _).alloc _) (Ext.refl _ _)
      · have h4 : MlsAt (ownL (.slice (some ⟨r, 0, none⟩) n rb) ++ []) w6 p.2 p.1.mails := by
          rcases List.mem_or_eq_of_mem_set hp with hp | rfl
          · exact HML.out p hp
          · exact HML.out ps[a] (List.getElem_mem hpa)
        exact (h4.put (p := ⟨r, a * 4 + 2, none⟩) (List.mem_append.2 (.inl (by simp [ownL, ownBlock_some]))) _).go (Kept.refl _) (Ext.nil _ _)
      · exact ((hs4.go hk46 (U := [r]) (Ext.cons (by omega) (Ext.nil _ _))).put (p := ⟨r, a * 4 + 2, none⟩) (by simp) _).go (Kept.refl _) (Ext.nil _ _)
    have OB8 := Lib.hid (Own.newAt (w6.setCell ⟨r, a * 4 + 2, none⟩ (.int .i64 nx)) w6.heap.size 29 [.slice (some ⟨r, 0, none⟩) n rb, .slice A4' m c4', .int .i64 gv] (by simp [World.setCell]))
    have OX8 := Lib.hid ((OX6.out.far (p := ⟨r, a * 4 + 2, none⟩) (by simp; omega) (.int .i64 nx)).alloc (.cells #[.slice (some ⟨r, 0, none⟩) n rb, .slice A4' m c4', .int .i64 gv] 29))
    have hkw8 : Kept w ((w6.setCell ⟨r, a * 4 + 2, none⟩ (.int .i64 nx)).alloc (.cells #[.slice (some ⟨r, 0, none⟩) n rb, .slice A4' m c4', .int .i64 gv] 29)) := (hkw6.setCell (p := ⟨r, a * 4 + 2, none⟩) (by simp only []; omega) _).alloc _
    clear OX6 hkw6 hk46 o2 hmp c2 f2 OW
    have e8 : ∃ z, z = (w6.setCell ⟨r, a * 4 + 2, none⟩ (.int .i64 nx)).alloc (.cells #[.slice (some ⟨r, 0, none⟩) n rb, .slice A4' m c4', .int .i64 gv] 29) := ⟨_, rfl⟩
    obtain ⟨w8, hw8⟩ := e8
    rw [← hw8] at HIB OB8 OX8 hkw8 ⊢
    clear hw8
    refine wp_region_Z (S := fun W => Kept w8 W) (Z := []) (by kernel_rfl) ((Kept.refl w8).drew) (fun hHeld => ?_)
    generalize w8.drew = w9 at *
    refine wpAnyZ_take (i := 0) (oi := { dst := some 111, op := Op.load 29 (Operand.tmp 17), type := 29, pos := "law.go:224", after := #[], guard := none }) (v := ?_) rfl (by kernel_rfl) (fun _ _ _ h => h) (Or.inl ⟨by rfl, ?_⟩) (by assumption) ?_
    rotate_left
    · (intro wz hSw; obtain ⟨x1, x2, x3, _, _, _⟩ := (OX8.out.kept hSw).three; obtain ⟨y1, y2, y3, _, _, _⟩ := (OB8.out.kept hSw).three; go_simp; (try with_reducible rfl))
    (try simp only [Act.put, List.setIfInBounds_toArray, List.set_cons_zero, List.set_cons_succ])
    refine wpAnyZ_take (i := 1) (oi := { dst := some 112, op := Op.load 25 (Operand.tmp 5), type := 25, pos := "law.go:224", after := #[], guard := none }) (v := ?_) rfl (by kernel_rfl) (fun _ _ _ h => h) (Or.inl ⟨by rfl, ?_⟩) (by assumption) ?_
    rotate_left
    · (intro wz hSw; obtain ⟨x1, x2, x3, _, _, _⟩ := (OX8.out.kept hSw).three; obtain ⟨y1, y2, y3, _, _, _⟩ := (OB8.out.kept hSw).three; go_simp; (try with_reducible rfl))
    (try simp only [Act.put, List.setIfInBounds_toArray, List.set_cons_zero, List.set_cons_succ])
    refine wpAnyZ_ready (rs := [2]) (by kernel_rfl) (by simp) ?_
    refine AllReadyZ.cons (o := { dst := some 113, op := Op.call { callee := Callee.value (Operand.func 9), args := #[Operand.tmp 112], argTypes := #[25] }, type := 29, pos := "law.go:224", after := #[{ on := 1, ground := Ground.data }], guard := none }) rfl (fun K hK => ?_) AllReadyZ.nil
    go_simp
    refine (HRF.out _ (hkw8.trans hHeld)).mono ?_
    rintro e w10 ⟨B2, b2, rfl, hr10, hk10⟩
    have k10 : Kept w8 w10 := hHeld.trans hk10
    have HR10 := Lib.hid hr10
    clear hr10 hk10
    go_wp2_with fail
    refine hK.out _ _ ?_ (fun hHeld => ?_)
    · exact k10
    clear hK K
    (try simp only [Act.put, List.setIfInBounds_toArray, List.set_cons_zero, List.set_cons_succ])
    refine wpAnyZ_ready (rs := [3]) (by kernel_rfl) (by simp) ?_
    refine AllReadyZ.cons (o := { dst := some 114, op := Op.call { callee := Callee.value (Operand.func 14), args := #[Operand.tmp 111, Operand.tmp 113], argTypes := #[29, 29] }, type := 4, pos := "law.go:224", after := #[{ on := 0, ground := Ground.data }, { on := 2, ground := Ground.data }, { on := 2, ground := Ground.chain }], guard := none }) rfl (fun K hK => ?_) AllReadyZ.nil
    go_simp
    refine (equal_any x _ _ w10 (HIB.out.go k10 (Ext.refl _ _)) HR10.out).mono ?_
    rintro e w11 ⟨rfl, hk11⟩
    have k11 : Kept w8 w11 := k10.trans hk11
    clear hk11
    go_wp2_with fail
    refine hK.out _ _ ?_ (fun hHeld => ?_)
    · exact k11
    clear hK K
    (try simp only [Act.put, List.setIfInBounds_toArray, List.set_cons_zero, List.set_cons_succ])
    refine wpAnyZ_take (i := 4) (oi := { dst := some 115, op := Op.move (Operand.tmp 114), type := 4, pos := "law.go:224", after := #[{ on := 3, ground := Ground.data }, { on := 3, ground := Ground.chain }], guard := none }) (v := ?_) rfl (by kernel_rfl) (fun _ _ _ h => h) (Or.inl ⟨by rfl, ?_⟩) (by assumption) ?_
    rotate_left
    · (intro wz hSw; obtain ⟨x1, x2, x3, _, _, _⟩ := (OX8.out.kept hSw).three; obtain ⟨y1, y2, y3, _, _, _⟩ := (OB8.out.kept hSw).three; go_simp; (try with_reducible rfl))
    (try simp only [Act.put, List.setIfInBounds_toArray, List.set_cons_zero, List.set_cons_succ])
    refine wpAnyZ_ready (rs := [5]) (by kernel_rfl) (by simp) ?_
    refine AllReadyZ.cons (o := { dst := some 116, op := Op.call { callee := Callee.value (Operand.func 10), args := #[], argTypes := #[] }, type := 4, pos := "law.go:224", after := #[{ on := 4, ground := Ground.chain }, { on := 4, ground := Ground.guard }], guard := some (4, true) }) rfl (fun K hK => ?_) AllReadyZ.nil
    go_simp
    refine (awake_any w11).mono ?_
    rintro e w12 ⟨rfl, hk12⟩
    have k12 : Kept w8 w12 := k11.trans hk12
    clear hk12
    go_wp2_with fail
    refine hK.out _ _ ?_ (fun hHeld => ?_)
    · exact k12
    clear hK K
    (try simp only [Act.put, List.setIfInBounds_toArray, List.set_cons_zero, List.set_cons_succ])
    refine wpAnyZ_take (i := 6) (oi := { dst := some 117, op := Op.pick (Operand.tmp 115) (Operand.tmp 116) (Operand.const (Value.bool false)), type := 4, pos := "law.go:224", after := #[{ on := 4, ground := Ground.data }, { on := 5, ground := Ground.data }], guard := none }) (v := ?_) rfl (by kernel_rfl) (fun _ _ _ h => h) (Or.inl ⟨by rfl, ?_⟩) (by assumption) ?_
    rotate_left
    · (intro wz hSw; obtain ⟨x1, x2, x3, _, _, _⟩ := (OX8.out.kept hSw).three; obtain ⟨y1, y2, y3, _, _, _⟩ := (OB8.out.kept hSw).three; go_simp; (try with_reducible rfl))
    (try simp only [Act.put, List.setIfInBounds_toArray, List.set_cons_zero, List.set_cons_succ])
    refine wpAnyZ_take (i := 7) (oi := { dst := some 10, op := Op.assign (Operand.tmp 117), type := 4, pos := "law.go:224", after := #[{ on := 6, ground := Ground.data }, { on := 5, ground := Ground.chain }, { on := 0, ground := Ground.phase }, { on := 1, ground := Ground.phase }, { on := 2, ground := Ground.phase }, { on := 3, ground := Ground.phase }, { on := 4, ground := Ground.phase }, { on := 5, ground := Ground.phase }, { on := 6, ground := Ground.phase }], guard := none }) (v := ?_) rfl (by kernel_rfl) (fun _ _ _ h => h) (Or.inl ⟨by rfl, ?_⟩) (by assumption) ?_
    rotate_left
    · (intro wz hSw; obtain ⟨x1, x2, x3, _, _, _⟩ := (OX8.out.kept hSw).three; obtain ⟨y1, y2, y3, _, _, _⟩ := (OB8.out.kept hSw).three; go_simp; (try with_reducible rfl))
    (try simp only [Act.put, List.setIfInBounds_toArray, List.set_cons_zero, List.set_cons_succ])
    refine wpAnyZ_done (by kernel_rfl) ?_ _
    go_wp2
    go_ret
    exact ⟨rfl, hkw8.trans k12⟩
end Go.Proofs.Ytjinnkbnllnllaa
