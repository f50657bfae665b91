/- Walk: index.Append (under way). -/
import Derived.Test.YtjinnkbnllnllaaIxExpS
import Derived.Test.YtjinnkbnllnllaaLast
namespace Go.Proofs.Ytjinnkbnllnllaa
open Go.RowKit

def nextUp (b : Bx) (ml : List Ml) : Bx := ⟨b.name, b.val, b.next + 1, ml⟩
def appIx (x : Ix) (a : Nat) (m : Ml) : Ix := ⟨x.boxes.set a (nextUp (bxAt x a) ((bxAt x a).mails ++ [m])), x.subs, x.given⟩
def appR (x : Ix) (nm : ByteArray) (o s f : Int) : Ix × Int × Int :=
  if rightB x && mailB o s f then
    match findX x nm with
    | none => (ix0, 0, 6)
    | some a => if 30 ≤ totTo x x.boxes.length then (ix0, 0, 9)
      else if 4294967295 ≤ (bxAt x a).next then (ix0, 0, 5)
      else (appIx x a ⟨(bxAt x a).next, f, o, s⟩, (bxAt x a).next, 0)
  else (ix0, 0, 1)
def AppPost (V : List Nat) (x : Ix) (nm : ByteArray) (o s f : Int) (w : World) (e : Ending) (w' : World) : Prop :=
  ∃ v, e = .returned (.tuple #[v, .int .i64 (appR x nm o s f).2.1, .int .i64 (appR x nm o s f).2.2]) ∧ IxAt V w' v (appR x nm o s f).1 ∧ Kept w w'

theorem step_app_Ml {w : World} {ops : Array Oper} {o : Oper} {a : Act} {K : Act → World → Prop} {Q : Exit → Act → World → Prop} {E : Prop} (hgd : o.guard = none) (s x : Operand)
    (ho : o.op = .call { callee := .builtin .append, args := #[s, x], argTypes := #[38, 38] })
    (base : Nat) (v : Value) (l : List Ml) (hs : a.eval s = v) (hown : w.ownsRow base 47 4 v l.length (mls l))
    (V : List Nat) (A : Option Addr) (c : Nat) (m : List Ml) (hx : a.eval x = .slice A m.length c) (hr : Row V w A (mls m)) (h1 : ∀ u ∈ mls m, u.oneCell' = true) (h63 : (l.length + m.length) * 32 ≤ 140737488355328) (hbase : base ≤ w.heap.size)
    (h : ∀ v' w', w'.ownsRow base 47 4 v' (l ++ m).length (mls (l ++ m)) → w.grownBy w' v.ownBlock → (v'.ownBlock = v.ownBlock ∨ v'.ownBlock = some w.heap.size) → K (a.put o.dst v') w') :
    if Region.wanted o (yielded ops a.tmps) = true then Oper.wp Try.prog o a w K Q else E := by
  obtain ⟨i, hi, hz, hsz, hb⟩ := info_parts Try.infoMl
  refine step_append_any w hgd s x _ ho base _ i _ 4 32 Try.underlying38 hi hz hsz hb rfl (by omega) v l.length (mls l) hs hown V A m.length c (mls m) hx (mls_length m) hr h1 (by unfold maxLen; omega) h63 hbase ?_
  intro v' w' h1 h2 h3
  exact h v' w' (by rw [mls_append, List.length_append]; exact h1) h2 h3

def nextBp (p : Bp) : Bp := (⟨p.1.name, p.1.val, p.1.next + 1, p.1.mails⟩, p.2)
theorem bxs_next {ps : List Bp} {k : Nat} (h : k < ps.length) {nx : Int} (hn : ps[k].1.next = nx) : (bxs ps).set (k * 4 + 2) (.int .i64 (nx + 1)) = bxs (ps.set k (nextBp ps[k])) := by
  subst hn
  exact (flat4_set bxc bxc_four ps k 2 (by omega) (nextBp ps[k]) _ h rfl).symm
theorem Own.four' {w : World} {g : Nat} {t : TypeId} {x y z u : Value} (h : Own w g t [x, y, z, u]) : w.cell? ⟨g, 0, none⟩ = some x ∧ w.cell? ⟨g, 1, none⟩ = some y ∧ w.cell? ⟨g, 2, none⟩ = some z ∧ w.cell? ⟨g, 3, none⟩ = some u :=
  ⟨h.cell? 0, h.cell? 1, h.cell? 2, h.cell? 3⟩
theorem vin {V : List Nat} {w : World} (h : Old V w) {j B : Nat} (hj : j ∈ w.heap.size :: (w.heap.size + 1) :: V) (hB : w.heap.size + 1 < B) : j < B := by
  rcases List.mem_cons.1 hj with rfl | hj
  · omega
  · rcases List.mem_cons.1 hj with rfl | hj
    · exact hB
    · have := h j hj; omega
def AppMid (V : List Nat) (x : Ix) (a : Nat) (ml : List Ml) (mm : Ml) (w : World) (n m : Nat) (A' : Option Addr) (c' r rc : Nat) (ps : List Bp) (wx : World) : Prop :=
  Own wx w.heap.size 25 [.slice (some ⟨r, 0, none⟩) n rc, .slice A' m c', .int .i64 x.given] ∧ Own wx (w.heap.size + 1) 25 [.slice none 0 0, .slice none 0 0, .int .i64 0] ∧
  ps.map (·.1) = x.boxes.set a (withMails (bxAt x a) (ml ++ [mm])) ∧ (∀ p ∈ ps, MlsAt (r :: w.heap.size :: (w.heap.size + 1) :: V) wx p.2 p.1.mails) ∧
  wx.ownsRow (w.heap.size + 2) 40 4 (.slice (some ⟨r, 0, none⟩) n rc) n (bxs ps) ∧ Kept w wx
theorem appMid_of {V : List Nat} {x : Ix} {a : Nat} {ml : List Ml} {mm : Ml} {w w0 wa ww : World} {n m : Nat} {A' : Option Addr} {c' r rc : Nat} {ps : List Bp} {v0 v1 v2 : Value} (k0 : Kept w w0) (ka : Kept w0 wa) (hk5 : Kept wa ww) (hn : x.boxes.length = n)
    (hps : ps.map (·.1) = x.boxes.set a (withMails (bxAt x a) (ml ++ [mm]))) (hml : ∀ p ∈ ps, MlsAt (w.heap.size :: (w.heap.size + 1) :: V) wa p.2 p.1.mails) (ho : ww.ownsRow wa.heap.size 40 4 (.slice (some ⟨r, 0, none⟩) x.boxes.length rc) x.boxes.length (bxs ps))
    (OX : Own ww w.heap.size 25 [v0, v1, v2]) (OR : Own ww (w.heap.size + 1) 25 [.slice none 0 0, .slice none 0 0, .int .i64 0]) (hr0 : w.heap.size + 1 < w0.heap.size) :
    AppMid V x a ml mm w n m A' c' r rc ps (((ww.setCell ⟨w.heap.size, 0, none⟩ (.slice (some ⟨r, 0, none⟩) n rc)).setCell ⟨w.heap.size, 1, none⟩ (.slice A' m c')).setCell ⟨w.heap.size, 2, none⟩ (.int .i64 x.given)) := by
  have hr4 : wa.heap.size ≤ r := (ho.lt r rfl).1
  have hz := ka.size
  rw [hn] at ho
  have nr : (Value.slice (some ⟨r, 0, none⟩) n rc).ownBlock ≠ some w.heap.size := fun e => by have := ownBlock_eq e; omega
  refine ⟨OX.put3' _ _ _, ((OR.far (p := ⟨w.heap.size, 0, none⟩) (by simp) _).far (p := ⟨w.heap.size, 1, none⟩) (by simp) _).far (p := ⟨w.heap.size, 2, none⟩) (by simp) _, hps, fun p hp => ?_, ?_, ?_⟩
  · exact ((((hml p hp).go hk5 (U := (r :: w.heap.size :: (w.heap.size + 1) :: V)) (Ext.cons (by omega) (Ext.refl _ _))).put (p := ⟨w.heap.size, 0, none⟩) (by simp) _).put (p := ⟨w.heap.size, 1, none⟩) (by simp) _).put (p := ⟨w.heap.size, 2, none⟩) (by simp) _
  · exact World.ownsRow.mono (ownsRow_setCell_other (ownsRow_setCell_other (ownsRow_setCell_other ho (a := ⟨w.heap.size, 0, none⟩) nr _) (a := ⟨w.heap.size, 1, none⟩) nr _) (a := ⟨w.heap.size, 2, none⟩) nr _) (by omega)
  · exact ((((k0.trans ka).trans hk5).setCell (p := ⟨w.heap.size, 0, none⟩) (by simp) _).setCell (p := ⟨w.heap.size, 1, none⟩) (by simp) _).setCell (p := ⟨w.heap.size, 2, none⟩) (by simp) _

set_option maxRecDepth 100000 in
set_option maxHeartbeats 1000000 in
theorem app_main (V : List Nat) (x : Ix) (v : Value) (nm : ByteArray) (ob sz fl : Int) (a : Nat) (w : World) (hV : Old V w) (h : IxAt V w v x) (hok : IxOk x) (hob : I64 ob) (hr : rightB x = true) (hmb : mailB ob sz fl = true) (hf : findX x nm = some a) (ha : a < x.boxes.length) (hl : x.boxes.length ≤ 6) (htot : totTo x x.boxes.length < 30) (hnx : (bxAt x a).next < 4294967295) (hnp : 1 ≤ (bxAt x a).next) (hst : ∀ j, j < x.boxes.length → stepB x j = true) :
    Calls Try.prog 11 #[v, .string nm, .int .i64 ob, .int .i64 sz, .int .i64 fl] w (AppPost V x nm ob sz fl w) := by
  have HVV := Lib.hid h
  have HOV := Lib.hid hV
  replace h := h.weak (U := []) (fun _ hk => by cases hk)
  clear hV
  have H := Lib.hid h
  have HOK := Lib.hid hok
  have HR := Lib.hid hr
  have HMB := Lib.hid hmb
  have HF := Lib.hid hf
  have HST := Lib.hid hst
  obtain ⟨ho1, ho2⟩ := hob
  obtain ⟨A, c, A', c', rfl, hc1, hc2, hc3, hc4, hbx, hrow⟩ := h.open_
  obtain ⟨b, o, mv, rfl, hb, _, hbc⟩ := hbx (by omega)
  have HBC := Lib.hid hbc
  clear hbx hrow h hok hr hf hbc hmb hst
  unfold maxLen at hc2 hc4
  generalize hn : x.boxes.length = n at *
  generalize hm : x.subs.length = m at *
  have HN := Lib.hid hn
  have HM := Lib.hid hm
  clear hn hm
  go_enter Try.func11, Try.ntmps11
  go_wp2_with fail
  refine (right_any x _ _ (H.out.go (((Kept.refl w).alloc _).alloc _) (Ext.refl _ _)) HOK.out).mono ?_
  rintro e w1 ⟨rfl, hk1⟩
  rw [HR.out]
  have OX := Lib.hid (((Own.new w 25 [.slice (some ⟨b, o, none⟩) n c, .slice A' m c', .int .i64 x.given]).alloc (.cells #[.slice none 0 0, .slice none 0 0, .int .i64 0] 25)).kept hk1)
  have OR := Lib.hid ((Own.new1 w (.cells #[.slice (some ⟨b, o, none⟩) n c, .slice A' m c', .int .i64 x.given] 25) 25 [.slice none 0 0, .slice none 0 0, .int .i64 0]).kept hk1)
  have hkw1 := (((Kept.refl w).alloc (.cells #[.slice (some ⟨b, o, none⟩) n c, .slice A' m c', .int .i64 x.given] 25)).alloc (.cells #[.slice none 0 0, .slice none 0 0, .int .i64 0] 25)).trans hk1
  clear hk1
  obtain ⟨q1, q2, q3, _, _, _⟩ := OX.out.three
  go_wp2_with fail
  refine (mail_any ob sz fl _ ho2 ho1).mono ?_
  rw [HMB.out]
  rintro e w1' ⟨rfl, rfl⟩
  go_wp2_with fail
  refine (find_any x _ nm _ (H.out.go hkw1 (Ext.refl _ _))).mono ?_
  rw [HF.out]
  rintro e w2 ⟨rfl, hk2⟩
  have OX2 := Lib.hid (OX.out.kept hk2)
  have OR2 := Lib.hid (OR.out.kept hk2)
  have hkw2 := hkw1.trans hk2
  clear hk2 OX OR q1 q2 q3 hkw1
  obtain ⟨q1, q2, q3, _, _, _⟩ := OX2.out.three
  have a0 : (0 : Int) ≤ (a : Int) := by omega
  have a1 : (a : Int) < (n : Int) := by omega
  simp only [ofO]
  go_wp2_with fail
  go_loopw [14, 39] (fun tv iv wr => ∃ k t : Nat, k ≤ n ∧ iv = .int .i64 k ∧ tv = .int .i64 t ∧ Hid (t = totTo x k) ∧ Own wr w.heap.size 25 [.slice (some ⟨b, o, none⟩) n c, .slice A' m c', .int .i64 x.given] ∧ Own wr (w.heap.size + 1) 25 [.slice none 0 0, .slice none 0 0, .int .i64 0] ∧ Kept w wr) (fun _ iv _ => n - (intOf iv).toNat)
  case atStart => exact ⟨0, 0, Nat.zero_le _, rfl, rfl, rfl, OX2.out, OR2.out, hkw2⟩
  case round =>
    obtain ⟨k, t, hk, rfl, rfl, HT, hox, hor, hkw⟩ := hrel
    have HOX := Lib.hid hox
    have HOR := Lib.hid hor
    clear q1 q2 q3
    obtain ⟨q1, q2, q3, _, _, _⟩ := hox.three
    have ht30 := totTo_le k (fun j hj => HST.out j (by omega))
    rw [← HT.out] at ht30
    by_cases hlt : k < n
    · have hk' : k < x.boxes.length := by rw [HN.out]; exact hlt
      obtain ⟨g1, g2, g3, g4, gm⟩ := HBC.out.go hb hkw (Ext.refl _ _) k hk'
      obtain ⟨MA, mc, hmv⟩ := gm.form
      have HAT := Lib.hid (bxAt_lt hk')
      have h30 := box_mails (HST.out k (by omega))
      rw [HAT.out] at h30
      rw [hmv] at g4
      clear hox hor gm hmv
      generalize x.boxes[k] = B at *
      go_wp2
      go_roundw
      case rel => exact ⟨k + 1, t + B.mails.length, by omega, by go_num, by go_num, by show _ = _; rw [totTo, HT.out, HAT.out], HOX.out.alloc _, HOR.out.alloc _, hkw.alloc _⟩
      case measure => simp [intOf]; omega
    · obtain rfl : k = n := by omega
      rw [← HT.out] at htot
      have ha' : a < x.boxes.length := by rw [HN.out]; exact ha
      obtain ⟨e1, e2, e3, e4, em⟩ := HBC.out.go hb hkw (Ext.refl _ _) a ha'
      have HAT := Lib.hid (bxAt_lt ha')
      rw [← HAT.out] at e3 em
      have HEM := Lib.hid em
      obtain ⟨MA, mc, hmv⟩ := em.form
      rw [hmv] at e4 HEM
      clear hox hor em hmv e1 e2
      go_upto_region 18 with fail
      generalize hnxe : (bxAt x a).next = nx at *
      have HNX := Lib.hid hnxe
      clear hnxe
      have OM := Lib.hid (Own.new wr 47 [.int .i64 nx, .int .i64 fl, .int .i64 ob, .int .i64 sz])
      have OX0 := Lib.hid (HOX.out.alloc (.cells #[.int .i64 nx, .int .i64 fl, .int .i64 ob, .int .i64 sz] 47))
      have OR0 := Lib.hid (HOR.out.alloc (.cells #[.int .i64 nx, .int .i64 fl, .int .i64 ob, .int .i64 sz] 47))
      have k0 : Kept w (wr.alloc (.cells #[.int .i64 nx, .int .i64 fl, .int .i64 ob, .int .i64 sz] 47)) := hkw.alloc _
      have e4 : (wr.alloc (.cells #[.int .i64 nx, .int .i64 fl, .int .i64 ob, .int .i64 sz] 47)).cell? ⟨b, o + a * 4 + 3, none⟩ = some (.slice MA (bxAt x a).mails.length mc) := (World.cell?_alloc_lt _ _ _ (Nat.lt_of_lt_of_le hb hkw.size)).trans e4
      have hm30 := box_mails (HST.out a (by omega))
      have HEM0 := Lib.hid (HEM.out.go ((Kept.refl wr).alloc (.cells #[.int .i64 nx, .int .i64 fl, .int .i64 ob, .int .i64 sz] 47)) (Ext.refl _ _))
      generalize hml0 : (bxAt x a).mails = ml at *
      have HML0 := Lib.hid hml0
      clear hml0
      clear HOX HOR hkw HEM q1 q2 q3
      generalize wr.alloc (.cells #[.int .i64 nx, .int .i64 fl, .int .i64 ob, .int .i64 sz] 47) = w0 at *
      have hb0 : b < w0.heap.size := Nat.lt_of_lt_of_le hb k0.size
      have hx0 := OX0.out.lt
      have hr0 := OR0.out.lt
      have hm0 := OM.out.lt
      clear e3
      go_cut [78] from 66 (fun _ wx => ∃ (r rc : Nat) (ps : List Bp), AppMid V x a ml ⟨nx, fl, ob, sz⟩ w k m A' c' r rc ps wx)
      case first =>
        have HCL : ∀ W, Kept w0 W → Calls Try.prog 35 #[.slice MA ml.length mc] W fun e w' => ∃ B bc, e = .returned (.slice B ml.length bc) ∧ w'.ownsRow W.heap.size 47 4 (.slice B ml.length bc) ml.length (mls ml) ∧ Kept W w' := fun W hW => by
          obtain ⟨MA', mc', e, e1, e2, e3⟩ := HEM0.out
          cases e
          exact cloneMl_any ml MA mc W (e3.kept hW) (mls_one _) (by omega)
        have HCL := Lib.hid HCL
        refine wp_region_Z (S := fun W => Kept w0 W) (Z := [13]) (by kernel_rfl) ((Kept.refl w0).drew) (fun hHeld => ?_)
        generalize w0.drew = wd at *
        refine wpAnyZ_take (i := 0) (oi := { dst := some 66, op := Op.load 25 (Operand.tmp 5), type := 25, pos := "changes.go:136", after := #[], guard := none }) (v := ?_) rfl (by kernel_rfl) (fun _ _ _ h => h) (Or.inl ⟨by rfl, ?_⟩) (by assumption) ?_
        rotate_left
        · (intro wz hSw; obtain ⟨x1, x2, x3, _, _, _⟩ := (OX0.out.kept hSw).three; obtain ⟨m1, m2, m3, m4⟩ := (OM.out.kept hSw).four'; have e4' := (hSw.cell (p := ⟨b, o + a * 4 + 3, none⟩) hb0).trans e4; go_simp; (try with_reducible rfl))
        (try simp only [Act.put, List.setIfInBounds_toArray, List.set_cons_zero, List.set_cons_succ])
        refine wpAnyZ_take (i := 1) (oi := { dst := some 67, op := Op.move (Operand.tmp 13), type := 3, pos := "changes.go:136", after := #[], guard := none }) (v := ?_) rfl (by kernel_rfl) (fun _ _ _ h => h) (Or.inl ⟨by rfl, ?_⟩) (by assumption) ?_
        rotate_left
        · (intro wz hSw; obtain ⟨x1, x2, x3, _, _, _⟩ := (OX0.out.kept hSw).three; obtain ⟨m1, m2, m3, m4⟩ := (OM.out.kept hSw).four'; have e4' := (hSw.cell (p := ⟨b, o + a * 4 + 3, none⟩) hb0).trans e4; go_simp; (try with_reducible rfl))
        (try simp only [Act.put, List.setIfInBounds_toArray, List.set_cons_zero, List.set_cons_succ])
        refine wpAnyZ_take (i := 2) (oi := { dst := some 68, op := Op.fieldAddr 25 (Operand.tmp 5) 0, type := 0, pos := "changes.go:136", after := #[], guard := none }) (v := ?_) rfl (by kernel_rfl) (fun _ _ _ h => h) (Or.inl ⟨by rfl, ?_⟩) (by assumption) ?_
        rotate_left
        · (intro wz hSw; obtain ⟨x1, x2, x3, _, _, _⟩ := (OX0.out.kept hSw).three; obtain ⟨m1, m2, m3, m4⟩ := (OM.out.kept hSw).four'; have e4' := (hSw.cell (p := ⟨b, o + a * 4 + 3, none⟩) hb0).trans e4; go_simp; (try with_reducible rfl))
        (try simp only [Act.put, List.setIfInBounds_toArray, List.set_cons_zero, List.set_cons_succ])
        refine wpAnyZ_take (i := 3) (oi := { dst := some 69, op := Op.load 22 (Operand.tmp 68), type := 22, pos := "changes.go:136", after := #[{ on := 2, ground := Ground.data }], guard := none }) (v := ?_) rfl (by kernel_rfl) (fun _ _ _ h => h) (Or.inl ⟨by rfl, ?_⟩) (by assumption) ?_
        rotate_left
        · (intro wz hSw; obtain ⟨x1, x2, x3, _, _, _⟩ := (OX0.out.kept hSw).three; obtain ⟨m1, m2, m3, m4⟩ := (OM.out.kept hSw).four'; have e4' := (hSw.cell (p := ⟨b, o + a * 4 + 3, none⟩) hb0).trans e4; go_simp; (try with_reducible rfl))
        (try simp only [Act.put, List.setIfInBounds_toArray, List.set_cons_zero, List.set_cons_succ])
        refine wpAnyZ_take (i := 4) (oi := { dst := some 70, op := Op.move (Operand.tmp 13), type := 3, pos := "changes.go:136", after := #[], guard := none }) (v := ?_) rfl (by kernel_rfl) (fun _ _ _ h => h) (Or.inl ⟨by rfl, ?_⟩) (by assumption) ?_
        rotate_left
        · (intro wz hSw; obtain ⟨x1, x2, x3, _, _, _⟩ := (OX0.out.kept hSw).three; obtain ⟨m1, m2, m3, m4⟩ := (OM.out.kept hSw).four'; have e4' := (hSw.cell (p := ⟨b, o + a * 4 + 3, none⟩) hb0).trans e4; go_simp; (try with_reducible rfl))
        (try simp only [Act.put, List.setIfInBounds_toArray, List.set_cons_zero, List.set_cons_succ])
        refine wpAnyZ_take (i := 5) (oi := { dst := some 71, op := Op.indexAddr 22 (Operand.tmp 69) (Operand.tmp 70), type := 0, pos := "changes.go:136", after := #[{ on := 3, ground := Ground.data }, { on := 4, ground := Ground.data }], guard := none }) (v := ?_) rfl (by kernel_rfl) (fun _ _ _ h => h) (Or.inl ⟨by rfl, ?_⟩) (by assumption) ?_
        rotate_left
        · (intro wz hSw; obtain ⟨x1, x2, x3, _, _, _⟩ := (OX0.out.kept hSw).three; obtain ⟨m1, m2, m3, m4⟩ := (OM.out.kept hSw).four'; have e4' := (hSw.cell (p := ⟨b, o + a * 4 + 3, none⟩) hb0).trans e4; go_simp; (try with_reducible rfl))
        (try simp only [Act.put, List.setIfInBounds_toArray, List.set_cons_zero, List.set_cons_succ])
        refine wpAnyZ_take (i := 6) (oi := { dst := some 72, op := Op.fieldAddr 40 (Operand.tmp 71) 3, type := 0, pos := "changes.go:136", after := #[{ on := 5, ground := Ground.data }], guard := none }) (v := ?_) rfl (by kernel_rfl) (fun _ _ _ h => h) (Or.inl ⟨by rfl, ?_⟩) (by assumption) ?_
        rotate_left
        · (intro wz hSw; obtain ⟨x1, x2, x3, _, _, _⟩ := (OX0.out.kept hSw).three; obtain ⟨m1, m2, m3, m4⟩ := (OM.out.kept hSw).four'; have e4' := (hSw.cell (p := ⟨b, o + a * 4 + 3, none⟩) hb0).trans e4; go_simp; (try with_reducible rfl))
        (try simp only [Act.put, List.setIfInBounds_toArray, List.set_cons_zero, List.set_cons_succ])
        refine wpAnyZ_take (i := 7) (oi := { dst := some 73, op := Op.load 38 (Operand.tmp 72), type := 38, pos := "changes.go:136", after := #[{ on := 6, ground := Ground.data }], guard := none }) (v := ?_) rfl (by kernel_rfl) (fun _ _ _ h => h) (Or.inl ⟨by rfl, ?_⟩) (by assumption) ?_
        rotate_left
        · (intro wz hSw; obtain ⟨x1, x2, x3, _, _, _⟩ := (OX0.out.kept hSw).three; obtain ⟨m1, m2, m3, m4⟩ := (OM.out.kept hSw).four'; have e4' := (hSw.cell (p := ⟨b, o + a * 4 + 3, none⟩) hb0).trans e4; go_simp; (try with_reducible rfl))
        (try simp only [Act.put, List.setIfInBounds_toArray, List.set_cons_zero, List.set_cons_succ])
        refine wpAnyZ_take (i := 9) (oi := { dst := some 75, op := Op.load 47 (Operand.tmp 18), type := 47, pos := "changes.go:136", after := #[], guard := none }) (v := ?_) rfl (by kernel_rfl) (fun _ _ _ h => h) (Or.inl ⟨by rfl, ?_⟩) (by assumption) ?_
        rotate_left
        · (intro wz hSw; obtain ⟨x1, x2, x3, _, _, _⟩ := (OX0.out.kept hSw).three; obtain ⟨m1, m2, m3, m4⟩ := (OM.out.kept hSw).four'; have e4' := (hSw.cell (p := ⟨b, o + a * 4 + 3, none⟩) hb0).trans e4; go_simp; (try with_reducible rfl))
        (try simp only [Act.put, List.setIfInBounds_toArray, List.set_cons_zero, List.set_cons_succ])
        refine wpAnyZ_ready (rs := [8, 10]) (by kernel_rfl) (by simp) ?_
        refine AllReadyZ.cons (o := { dst := some 74, op := Op.call { callee := Callee.value (Operand.func 35), args := #[Operand.tmp 73], argTypes := #[38] }, type := 38, pos := "changes.go:136", after := #[{ on := 7, ground := Ground.data }], guard := none }) rfl (fun K hK => ?_) ?_
        · skip
          go_simp
          refine (HCL.out _ hHeld).mono ?_
          rintro e w3 ⟨CB, cc, rfl, oc, hc⟩
          have k3 : Kept w0 w3 := hHeld.trans hc
          have OC := Lib.hid (World.ownsRow.mono oc hHeld.size)
          clear oc hc
          go_wp2_with fail
          refine hK.out _ _ ?_ (fun hHeld => ?_)
          · exact k3
          clear hK K
          (try simp only [Act.put, List.setIfInBounds_toArray, List.set_cons_zero, List.set_cons_succ])
          refine wpAnyZ_ready (rs := [10]) (by kernel_rfl) (by simp) ?_
          refine AllReadyZ.cons (o := { dst := some 76, op := Op.buildSlice 38 1 #[(0, Operand.tmp 75)], type := 38, pos := "changes.go:136", after := #[{ on := 9, ground := Ground.data }], guard := none }) rfl (fun K hK => ?_) AllReadyZ.nil
          go_simp
          have OB := Lib.hid (Own.new w3 47 [.int .i64 nx, .int .i64 fl, .int .i64 ob, .int .i64 sz])
          have OC := Lib.hid (OC.out.alloc (.cells #[.int .i64 nx, .int .i64 fl, .int .i64 ob, .int .i64 sz] 47))
          have k4 : Kept w0 (w3.alloc (.cells #[.int .i64 nx, .int .i64 fl, .int .i64 ob, .int .i64 sz] 47)) := k3.alloc _
          generalize w3.alloc (.cells #[.int .i64 nx, .int .i64 fl, .int .i64 ob, .int .i64 sz] 47) = w4 at *
          refine hK.out _ _ ?_ (fun hHeld => ?_)
          · exact k4
          clear hK K
          (try simp only [Act.put, List.setIfInBounds_toArray, List.set_cons_zero, List.set_cons_succ])
          refine wpAnyZ_ready (rs := [11]) (by kernel_rfl) (by simp) ?_
          refine AllReadyZ.cons (o := { dst := some 77, op := Op.call { callee := Callee.builtin Builtin.append, args := #[Operand.tmp 74, Operand.tmp 76], argTypes := #[38, 38] }, type := 38, pos := "changes.go:136", after := #[{ on := 8, ground := Ground.data }, { on := 10, ground := Ground.data }, { on := 8, ground := Ground.chain }], guard := none }) rfl (fun K hK => ?_) AllReadyZ.nil
          refine step_app_Ml rfl _ _ rfl w0.heap.size _ ml rfl OC.out [] _ _ [⟨nx, fl, ob, sz⟩] rfl (OB.out.row (by simp)) (mls_one _) (by simp; omega) k4.size ?_
          intro av wa oa ga _
          have ka : Kept w0 wa := k4.grown ga (fun j hj => (OC.out.lt j hj).1)
          obtain ⟨MB, mc2, rfl, f1, f2, f3⟩ := own_form (V := (w.heap.size :: (w.heap.size + 1) :: V)) oa (fun j hj => vin HOV.out hj (by omega))
          have HMV := Lib.hid (show MlsAt (w.heap.size :: (w.heap.size + 1) :: V) wa (.slice MB (ml ++ [(⟨nx, fl, ob, sz⟩ : Ml)]).length mc2) (ml ++ [⟨nx, fl, ob, sz⟩]) from ⟨MB, mc2, rfl, f1, f2, f3⟩)
          rw [show (ml ++ [(⟨nx, fl, ob, sz⟩ : Ml)]).length = ml.length + 1 by simp] at HMV
          clear oa ga f1 f2 f3
          refine hK.out _ _ ?_ (fun hHeld => ?_)
          · exact ka
          clear hK K
          (try simp only [Act.put, List.setIfInBounds_toArray, List.set_cons_zero, List.set_cons_succ])
          refine wpAnyZ_ready (rs := [12]) (by kernel_rfl) (by simp) ?_
          refine AllReadyZ.cons (o := { dst := some 78, op := Op.call { callee := Callee.value (Operand.func 34), args := #[Operand.tmp 66, Operand.tmp 67, Operand.tmp 77], argTypes := #[25, 3, 38] }, type := 25, pos := "changes.go:136", after := #[{ on := 0, ground := Ground.data }, { on := 1, ground := Ground.data }, { on := 11, ground := Ground.data }, { on := 11, ground := Ground.chain }], guard := none }) rfl (fun K hK => ?_) AllReadyZ.nil
          go_simp
          refine (with_any (w.heap.size :: (w.heap.size + 1) :: V) x.boxes (.slice (some ⟨b, o, none⟩) k c) (.slice A' m c') _ x.given a (ml ++ [⟨nx, fl, ob, sz⟩]) wa (HVV.out.go (k0.trans ka) (Ext.cons (by omega) (Ext.cons (by omega) (Ext.refl _ _)))).parts.2.1 ⟨_, _, _, rfl⟩ HMV.out (by rw [HN.out]; exact ha) (by rw [HN.out]; omega)).mono ?_
          rintro e ww ⟨r, rc, ps, rfl, hps, hml, ho5, hk5⟩
          have kw : Kept w0 ww := ka.trans hk5
          have HO5 := Lib.hid ho5
          have HPS := Lib.hid hps
          have HML := Lib.hid hml
          have HK5 := Lib.hid hk5
          have OX5 := Lib.hid (OX0.out.kept kw)
          have OR5 := Lib.hid (OR0.out.kept kw)
          obtain ⟨x1, x2, x3, x4, x5, x6⟩ := OX5.out.three
          clear ho5 hps hml hk5
          rw [HN.out]
          go_wp2_with fail
          refine hK.out _ _ ?_ (fun hHeld => ?_)
          · exact kw
          clear hK K
          (try simp only [Act.put, List.setIfInBounds_toArray, List.set_cons_zero, List.set_cons_succ])
          refine wpAnyZ_ready (rs := [13]) (by kernel_rfl) (by simp) ?_
          refine AllReadyZ.late (o := { dst := none, op := Op.store 25 (Operand.tmp 5) (Operand.tmp 78), type := 0, pos := "changes.go:136", after := #[{ on := 12, ground := Ground.data }, { on := 12, ground := Ground.chain }, { on := 0, ground := Ground.phase }, { on := 1, ground := Ground.phase }, { on := 2, ground := Ground.phase }, { on := 3, ground := Ground.phase }, { on := 4, ground := Ground.phase }, { on := 5, ground := Ground.phase }, { on := 6, ground := Ground.phase }, { on := 7, ground := Ground.phase }, { on := 8, ground := Ground.phase }, { on := 9, ground := Ground.phase }, { on := 10, ground := Ground.phase }, { on := 11, ground := Ground.phase }, { on := 12, ground := Ground.phase }], guard := none }) rfl (by simp) (fun K hK => ?_) AllReadyZ.nil
          go_simp
          refine hK.out _ _ ?_
          clear hK K
          (try simp only [Act.put, List.setIfInBounds_toArray, List.set_cons_zero, List.set_cons_succ])
          refine wpAnyZ_done (by kernel_rfl) ?_ _
          go_wp2_with fail
          go_meet
          case rel =>
            exact ⟨r, rc, ps, appMid_of k0 ka HK5.out HN.out HPS.out HML.out HO5.out OX5.out OR5.out hr0⟩
        refine AllReadyZ.cons (o := { dst := some 76, op := Op.buildSlice 38 1 #[(0, Operand.tmp 75)], type := 38, pos := "changes.go:136", after := #[{ on := 9, ground := Ground.data }], guard := none }) rfl (fun K hK => ?_) AllReadyZ.nil
        go_simp
        have OB := Lib.hid (Own.new wd 47 [.int .i64 nx, .int .i64 fl, .int .i64 ob, .int .i64 sz])
        have k3 : Kept w0 (wd.alloc (.cells #[.int .i64 nx, .int .i64 fl, .int .i64 ob, .int .i64 sz] 47)) := hHeld.alloc _
        generalize wd.alloc (.cells #[.int .i64 nx, .int .i64 fl, .int .i64 ob, .int .i64 sz] 47) = w3 at *
        refine hK.out _ _ ?_ (fun hHeld => ?_)
        · exact k3
        clear hK K
        (try simp only [Act.put, List.setIfInBounds_toArray, List.set_cons_zero, List.set_cons_succ])
        refine wpAnyZ_ready (rs := [8]) (by kernel_rfl) (by simp) ?_
        refine AllReadyZ.cons (o := { dst := some 74, op := Op.call { callee := Callee.value (Operand.func 35), args := #[Operand.tmp 73], argTypes := #[38] }, type := 38, pos := "changes.go:136", after := #[{ on := 7, ground := Ground.data }], guard := none }) rfl (fun K hK => ?_) AllReadyZ.nil
        go_simp
        refine (HCL.out _ k3).mono ?_
        rintro e w4 ⟨CB, cc, rfl, oc, hc⟩
        have k4 : Kept w0 w4 := k3.trans hc
        have OC := Lib.hid (World.ownsRow.mono oc k3.size)
        have OB := Lib.hid (OB.out.kept hc)
        clear oc hc
        go_wp2_with fail
        refine hK.out _ _ ?_ (fun hHeld => ?_)
        · exact k4
        clear hK K
        (try simp only [Act.put, List.setIfInBounds_toArray, List.set_cons_zero, List.set_cons_succ])
        refine wpAnyZ_ready (rs := [11]) (by kernel_rfl) (by simp) ?_
        refine AllReadyZ.cons (o := { dst := some 77, op := Op.call { callee := Callee.builtin Builtin.append, args := #[Operand.tmp 74, Operand.tmp 76], argTypes := #[38, 38] }, type := 38, pos := "changes.go:136", after := #[{ on := 8, ground := Ground.data }, { on := 10, ground := Ground.data }, { on := 8, ground := Ground.chain }], guard := none }) rfl (fun K hK => ?_) AllReadyZ.nil
        refine step_app_Ml rfl _ _ rfl w0.heap.size _ ml rfl OC.out [] _ _ [⟨nx, fl, ob, sz⟩] rfl (OB.out.row (by simp)) (mls_one _) (by simp; omega) k4.size ?_
        intro av wa oa ga _
        have ka : Kept w0 wa := k4.grown ga (fun j hj => (OC.out.lt j hj).1)
        obtain ⟨MB, mc2, rfl, f1, f2, f3⟩ := own_form (V := (w.heap.size :: (w.heap.size + 1) :: V)) oa (fun j hj => vin HOV.out hj (by omega))
        have HMV := Lib.hid (show MlsAt (w.heap.size :: (w.heap.size + 1) :: V) wa (.slice MB (ml ++ [(⟨nx, fl, ob, sz⟩ : Ml)]).length mc2) (ml ++ [⟨nx, fl, ob, sz⟩]) from ⟨MB, mc2, rfl, f1, f2, f3⟩)
        rw [show (ml ++ [(⟨nx, fl, ob, sz⟩ : Ml)]).length = ml.length + 1 by simp] at HMV
        clear oa ga f1 f2 f3
        refine hK.out _ _ ?_ (fun hHeld => ?_)
        · exact ka
        clear hK K
        (try simp only [Act.put, List.setIfInBounds_toArray, List.set_cons_zero, List.set_cons_succ])
        refine wpAnyZ_ready (rs := [12]) (by kernel_rfl) (by simp) ?_
        refine AllReadyZ.cons (o := { dst := some 78, op := Op.call { callee := Callee.value (Operand.func 34), args := #[Operand.tmp 66, Operand.tmp 67, Operand.tmp 77], argTypes := #[25, 3, 38] }, type := 25, pos := "changes.go:136", after := #[{ on := 0, ground := Ground.data }, { on := 1, ground := Ground.data }, { on := 11, ground := Ground.data }, { on := 11, ground := Ground.chain }], guard := none }) rfl (fun K hK => ?_) AllReadyZ.nil
        go_simp
        refine (with_any (w.heap.size :: (w.heap.size + 1) :: V) x.boxes (.slice (some ⟨b, o, none⟩) k c) (.slice A' m c') _ x.given a (ml ++ [⟨nx, fl, ob, sz⟩]) wa (HVV.out.go (k0.trans ka) (Ext.cons (by omega) (Ext.cons (by omega) (Ext.refl _ _)))).parts.2.1 ⟨_, _, _, rfl⟩ HMV.out (by rw [HN.out]; exact ha) (by rw [HN.out]; omega)).mono ?_
        rintro e ww ⟨r, rc, ps, rfl, hps, hml, ho5, hk5⟩
        have kw : Kept w0 ww := ka.trans hk5
        have HO5 := Lib.hid ho5
        have HPS := Lib.hid hps
        have HML := Lib.hid hml
        have HK5 := Lib.hid hk5
        have OX5 := Lib.hid (OX0.out.kept kw)
        have OR5 := Lib.hid (OR0.out.kept kw)
        obtain ⟨x1, x2, x3, x4, x5, x6⟩ := OX5.out.three
        clear ho5 hps hml hk5
        rw [HN.out]
        go_wp2_with fail
        refine hK.out _ _ ?_ (fun hHeld => ?_)
        · exact kw
        clear hK K
        (try simp only [Act.put, List.setIfInBounds_toArray, List.set_cons_zero, List.set_cons_succ])
        refine wpAnyZ_ready (rs := [13]) (by kernel_rfl) (by simp) ?_
        refine AllReadyZ.late (o := { dst := none, op := Op.store 25 (Operand.tmp 5) (Operand.tmp 78), type := 0, pos := "changes.go:136", after := #[{ on := 12, ground := Ground.data }, { on := 12, ground := Ground.chain }, { on := 0, ground := Ground.phase }, { on := 1, ground := Ground.phase }, { on := 2, ground := Ground.phase }, { on := 3, ground := Ground.phase }, { on := 4, ground := Ground.phase }, { on := 5, ground := Ground.phase }, { on := 6, ground := Ground.phase }, { on := 7, ground := Ground.phase }, { on := 8, ground := Ground.phase }, { on := 9, ground := Ground.phase }, { on := 10, ground := Ground.phase }, { on := 11, ground := Ground.phase }, { on := 12, ground := Ground.phase }], guard := none }) rfl (by simp) (fun K hK => ?_) AllReadyZ.nil
        go_simp
        refine hK.out _ _ ?_
        clear hK K
        (try simp only [Act.put, List.setIfInBounds_toArray, List.set_cons_zero, List.set_cons_succ])
        refine wpAnyZ_done (by kernel_rfl) ?_ _
        go_wp2_with fail
        go_meet
        case rel =>
          exact ⟨r, rc, ps, appMid_of k0 ka HK5.out HN.out HPS.out HML.out HO5.out OX5.out OR5.out hr0⟩
      case rest =>
        obtain ⟨r, rc, ps, hox, hor, hps, hml, hown, hkx⟩ := hcut
        have OX := Lib.hid hox
        have OR := Lib.hid hor
        have OW := Lib.hid hown
        have HPS := Lib.hid hps
        have HML := Lib.hid hml
        have hpl : ps.length = k := by have := congrArg List.length hps; rw [List.length_map, List.length_set, HN.out] at this; exact this
        have hpa : a < ps.length := by omega
        obtain ⟨hr1, hr2⟩ := hown.lt r rfl
        have hpn : ps[a].1.next = nx := by
          have h1 : (ps.map (·.1))[a]? = some ps[a].1 := by simp [hpa]
          rw [hps, List.getElem?_set_self (by omega)] at h1
          injection h1 with h1
          rw [← h1]; exact HNX.out
        have c2 : wc.cell? ⟨r, a * 4 + 2, none⟩ = some (.int .i64 nx) := by
          rw [World.ownsRow.cellAt hown _ (by omega), ← hpn]; exact (bxs_at hpa).2.2.1
        have f2 := World.ownsRow.frozenAt hown (a * 4 + 2)
        obtain ⟨q1, q2, q3, q4, q5, q6⟩ := hox.three
        obtain ⟨p1, p2, p3, p4, p5, p6⟩ := hor.three
        have hxl := hox.lt
        have hrl := hor.lt
        have rc0 := ownBlock_of_row hown (by omega)
        have rc1 : k ≤ rc ∧ rc ≤ maxLen := by obtain ⟨_, _, e, _, _, g1, g2⟩ := rc0; cases e; exact ⟨g1, g2⟩
        unfold maxLen at rc1
        obtain ⟨rc1, rc2⟩ := rc1
        have nxw : IntKind.i64.wrap (nx + 1) = nx + 1 := IntWalk.i64_in _ (by omega)
        have HPN := Lib.hid hpn
        clear hox hor hps hml hown hpn rc0 OX0 OR0 OM HEM0 e4
        go_wp2
        have n2 : (Value.slice (some ⟨r, 0, none⟩) k rc).ownBlock ≠ some (w.heap.size + 1) := fun e => by have := ownBlock_eq e; omega
        have o2 := (World.ownsRow.stored OW.out (a * 4 + 2) (.int .i64 (nx + 1))).1
        have o3 := ownsRow_setCell_other (ownsRow_setCell_other (ownsRow_setCell_other o2 (a := ⟨w.heap.size + 1, 0, none⟩) n2 (.slice (some ⟨r, 0, none⟩) k rc)) (a := ⟨w.heap.size + 1, 1, none⟩) n2 (.slice A' m c')) (a := ⟨w.heap.size + 1, 2, none⟩) n2 (.int .i64 x.given)
        have r0 := (OR.out.far (p := ⟨r, a * 4 + 2, none⟩) (by simp; omega) (.int .i64 (nx + 1))).put3' (.slice (some ⟨r, 0, none⟩) k rc) (.slice A' m c') (.int .i64 x.given)
        obtain ⟨s1, s2, s3, _, _, _⟩ := r0.three
        refine bodyPost_ret (v := .tuple #[.agg #[.slice (some ⟨r, 0, none⟩) k rc, .slice A' m c', .int .i64 x.given], .int .i64 nx, .int .i64 0]) (by simp [results, Try.results11, go_sem, s1, s2, s3]) rfl ?_
        have hex : appR x nm ob sz fl = (appIx x a ⟨nx, fl, ob, sz⟩, nx, 0) := by
          unfold appR
          rw [HR.out, HMB.out, HF.out]
          simp only [Bool.and_self, if_true]
          rw [if_neg (by rw [HN.out]; rw [HT.out] at htot; omega), if_neg (by rw [HNX.out]; omega), HNX.out]
        have hkw6 := (((hkx.setCell (p := ⟨r, a * 4 + 2, none⟩) (by simp only []; omega) (.int .i64 (nx + 1))).setCell (p := ⟨w.heap.size + 1, 0, none⟩) (by simp) (.slice (some ⟨r, 0, none⟩) k rc)).setCell (p := ⟨w.heap.size + 1, 1, none⟩) (by simp) (.slice A' m c')).setCell (p := ⟨w.heap.size + 1, 2, none⟩) (by simp) (.int .i64 x.given)
        refine ⟨_, by rw [hex], ?_, hkw6⟩
        rw [hex]
        have hnb := bxs_next hpa HPN.out
        refine ⟨_, _, rfl, ⟨ps.set a (nextBp ps[a]), ?_, ?_, fun p hp => ?_⟩, ?_⟩
        · have h1 : ps[a].1 = withMails (bxAt x a) (ml ++ [⟨nx, fl, ob, sz⟩]) := by
            have h1 : (ps.map (·.1))[a]? = some ps[a].1 := by simp [hpa]
            rw [HPS.out, List.getElem?_set_self (by omega)] at h1
            injection h1 with h1
            exact h1.symm
          show (ps.set a (nextBp ps[a])).map (·.1) = x.boxes.set a (nextUp (bxAt x a) ((bxAt x a).mails ++ [⟨nx, fl, ob, sz⟩]))
          have h2 : (nextBp ps[a]).1 = nextUp (bxAt x a) ((bxAt x a).mails ++ [⟨nx, fl, ob, sz⟩]) := by
            unfold nextBp
            rw [h1, HML0.out]; rfl
          rw [List.map_set, HPS.out, List.set_set, h2]
        · rw [hnb] at o3
          obtain ⟨A6, c6, e6, h61, h62, h63⟩ := own_form (V := V) o3 (fun k hk => by have := HOV.out k hk; omega)
          cases e6
          exact ⟨_, _, by rw [List.length_set, hpl], by rw [List.length_set, hpl]; exact h61, h62, h63⟩
        · have h1 : MlsAt (r :: w.heap.size :: (w.heap.size + 1) :: V) wc p.2 p.1.mails := by
            rcases List.mem_or_eq_of_mem_set hp with hp | rfl
            · exact HML.out p hp
            · exact HML.out ps[a] (List.getElem_mem hpa)
          exact ((((h1.put (p := ⟨r, a * 4 + 2, none⟩) (by simp) _).put (p := ⟨w.heap.size + 1, 0, none⟩) (by simp) _).put (p := ⟨w.heap.size + 1, 1, none⟩) (by simp) _).put (p := ⟨w.heap.size + 1, 2, none⟩) (by simp) _).go (Kept.refl _) (fun k hk => .inl (List.mem_cons_of_mem _ (List.mem_cons_of_mem _ (List.mem_cons_of_mem _ hk))))
        · exact (HVV.out.go hkw6 (Ext.refl _ _)).parts.2.2
end Go.Proofs.Ytjinnkbnllnllaa
