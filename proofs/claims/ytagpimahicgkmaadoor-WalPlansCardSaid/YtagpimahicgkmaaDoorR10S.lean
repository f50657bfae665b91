/- Walks: the document's sectors and operations (mailsackref10.sector, where, write, flush, Journaled, Same; mailsacklaw10.ops). -/
import Derived.Test.YtagpimahicgkmaaDoorL10S
import Derived.Test.YtagpimahicgkmaaDoorRfRight
import Derived.Test.YtagpimahicgkmaaDoorWalQ
import Derived.Deep.QuietTactic
import Derived.BigQuiet
namespace Go.Proofs.YtagpimahicgkmaaDoor
open Go.RowKit

/-! Sectors. -/
def padTo (L : List UInt8) (k : Nat) : List UInt8 := L ++ List.replicate k 0
def padL (L : List UInt8) : ByteArray := ⟨(padTo L (64 - L.length)).toArray⟩
theorem padTo_zero (L : List UInt8) : padTo L 0 = L := by unfold padTo; simp
theorem padTo_succ (L : List UInt8) (k : Nat) : padTo L k ++ [0] = padTo L (k + 1) := by
  unfold padTo
  rw [List.append_assoc, ← List.replicate_succ']
theorem padTo_len (L : List UInt8) (k : Nat) : (padTo L k).length = L.length + k := by unfold padTo; simp
def lenV : Value → Nat
  | .slice _ n _ => n
  | _ => 0
set_option maxRecDepth 100000 in
set_option maxHeartbeats 1000000 in
theorem rsector_any (w0 : World) (L : List UInt8) (v : Value) (w : World) (K0 : Kept w0 w) (h : w.ownsRow w0.heap.size 5 1 v L.length (L.flatMap bc1)) (hL : L.length ≤ 64) :
    Calls Tryd.prog 58 #[v] w fun e w' => e = .returned (.string (padL L)) ∧ Kept w0 w' := by
  have HH := Lib.hid h
  obtain ⟨A0, c0, rfl, _, _, _⟩ := own_form (V := []) h (by simp)
  clear h
  have HP0 : Hid (padTo L 0 = L) := padTo_zero L
  have HPS : Hid (∀ k, padTo L k ++ [0] = padTo L (k + 1)) := padTo_succ L
  have HPN : Hid (∀ k, (padTo L k).length = L.length + k) := padTo_len L
  have HPD : Hid (padL L = ⟨(padTo L (64 - L.length)).toArray⟩) := rfl
  generalize padTo L = P at *
  go_enter Tryd.func58, Tryd.ntmps58
  go_wp2_with fail
  go_loopw [0] (fun v wq => ∃ (k : Nat) (B : Option Addr) (cap : Nat), L.length + k ≤ 64 ∧ v = .slice B (L.length + k) cap ∧ Hid (wq.ownsRow w0.heap.size 5 1 (.slice B (L.length + k) cap) (P k).length ((P k).flatMap bc1)) ∧ Kept w0 wq) (fun v _ => 64 - lenV v)
  case atStart => exact ⟨0, A0, c0, by omega, rfl, by rw [HP0.out]; exact HH, K0⟩
  case round =>
    clear HH K0
    obtain ⟨k, B, cap, hk, rfl, HO, K⟩ := hrel
    by_cases hlt : L.length + k < 64
    · have hz := K.size
      go_wp2_with (at_builtin; go_must (
        refine Tryd.elU.wpList_app rfl (.tmp 6) (.tmp 7) rfl w0.heap.size (.slice B (L.length + k) cap) (P k) rfl (HO.out.alloc _) [] (some ⟨wr.heap.size, 0, none⟩) 1 [0] rfl ((Own.new wr _ ([(0 : UInt8)].flatMap bc1)).row (by simp)) (bc_one _) (by rw [HPN.out]; unfold maxLen; simp only [List.length_cons, List.length_nil]; omega) (by rw [HPN.out]; simp only [List.length_cons, List.length_nil]; omega) (by simp; omega) ?_
        intro v9 w9 hap hgr hat
        obtain ⟨A9, c9, rfl, _, _, _⟩ := own_form (V := []) hap (by simp)
        have K9 := (K.alloc _).grown hgr (fun k e => (HO.out.lt k e).1)
        rw [HPS.out, HPN.out] at hap
        rw [HPS.out, HPN.out]
        have HO9 : Hid (w9.ownsRow w0.heap.size 5 1 (.slice A9 (L.length + (k + 1)) c9) (P (k + 1)).length ((P (k + 1)).flatMap bc1)) := by show World.ownsRow _ _ _ _ _ _ _; rw [HPN.out]; exact hap
        clear hap hgr hat))
      go_wp2
      go_roundw
      case rel => exact ⟨k + 1, A9, c9, by omega, by first | rfl | (congr 1; omega), HO9, K9⟩
      case measure => simp [lenV]; omega
    · have e64 : L.length + k = 64 := by omega
      have HPK : Hid (padL L = ⟨(P k).toArray⟩) := by show _ = _; rw [HPD.out, show 64 - L.length = k by omega]
      have HPL : Hid ((P k).length = L.length + k) := HPN.out k
      have HO2 := HO.out
      clear HO
      generalize hm9 : L.length + k = m at *
      have hm64 : ¬ (m : Int) < 64 := by omega
      obtain ⟨A3, c3, hA, hc3, hm3, hr3⟩ := own_form (V := []) HO2 (by simp)
      injection hA with hA1 hA2 hA3
      subst hA1 hA3
      obtain ⟨b, o, rfl, hb, _, hcl⟩ := hr3 (by rw [Tryd.elU.cells_length, HPL.out]; omega)
      have hcv := run_convert_bytes_back (P := Tryd.prog) wr 85 9 5 ⟨b, o, none⟩ cap (P k) Tryd.underlying85 Tryd.underlying5 Tryd.underlying9 (fun i hi => by
        rw [Addr.add_mid]
        exact hcl i _ (by rw [bc_flat]; exact bc_at hi))

      clear hcl hr3 hb e64 hm9
      go_wp2
      go_ret
      exact ⟨by rw [HPK.out]; rfl, K⟩
theorem dst_pad (n : Nat) : padL [UInt8.ofNat n, UInt8.ofNat (n / 256), UInt8.ofNat (n / 65536), UInt8.ofNat (n / 16777216)] = dst n := by
  unfold padL dst
  have : dstTo n 4 = [byteOf n 0, byteOf n 1, byteOf n 2, byteOf n 3] ++ List.replicate 60 0 := rfl
  rw [this]
  unfold padTo byteOf
  simp only [Nat.mul_zero, Nat.pow_zero, Nat.div_one, List.length_cons, List.length_nil]
  first | done | rfl
theorem pad_nil : padL [] = zerosB 64 := rfl
set_option maxRecDepth 100000 in
set_option maxHeartbeats 1000000 in
theorem rwhere_any (n : Nat) (hn : n < 4294967296) (w : World) :
    Calls Tryd.prog 54 #[.int .i64 (n : Int)] w fun e w' => e = .returned (.string (dst n)) ∧ Kept w w' := by
  have HP := Lib.hid (dst_pad n)
  have H0 : Hid ((n : Int) % 256 = ((UInt8.ofNat n).toNat : Int)) := by show _ = _; rw [UInt8.toNat_ofNat']; omega
  have H1 : Hid ((n : Int) / 256 % 256 = ((UInt8.ofNat (n / 256)).toNat : Int)) := by show _ = _; rw [UInt8.toNat_ofNat']; omega
  have H2 : Hid ((n : Int) / 65536 % 256 = ((UInt8.ofNat (n / 65536)).toNat : Int)) := by show _ = _; rw [UInt8.toNat_ofNat']; omega
  have H3 : Hid ((n : Int) / 16777216 % 256 = ((UInt8.ofNat (n / 16777216)).toNat : Int)) := by show _ = _; rw [UInt8.toNat_ofNat']; omega
  go_enter Tryd.func54, Tryd.ntmps54
  go_wp2_with fail
  rw [H0.out, H1.out, H2.out, H3.out]
  generalize UInt8.ofNat n = b0 at *
  generalize UInt8.ofNat (n / 256) = b1 at *
  generalize UInt8.ofNat (n / 65536) = b2 at *
  generalize UInt8.ofNat (n / 16777216) = b3 at *
  have HO := Own.new w 5 ([b0, b1, b2, b3].flatMap bc1)
  refine (rsector_any w [b0, b1, b2, b3] _ _ ((Kept.refl w).alloc _) (by refine ⟨by rfl, .inr ⟨w.heap.size, 4, _, rfl, Nat.le_refl _, HO, by simp, by unfold maxLen; omega, rfl, rfl⟩⟩) (by simp)).mono ?_
  rintro e w1 ⟨rfl, K⟩
  go_wp2
  go_ret
  exact ⟨by rw [HP.out]; rfl, K⟩

/-! Operations. -/
theorem Tryd.elRo : Elem Tryd.prog 45 105 3 32 opC :=
  Elem.of (z := .agg #[.bool false, .int .i64 0, .string ⟨#[]⟩]) (by kernel_rfl) (by kernel_rfl) rfl (by omega) (fun _ => rfl)
/-- Operations in a row of their own, all behind a world. -/
def ROps (w0 w : World) (v : Value) (l : List WOp) : Prop := w.ownsRow w0.heap.size 105 3 v l.length (l.flatMap opC)
theorem ROps.nil (w0 w : World) : ROps w0 w (.slice none 0 0) [] := World.ownsRow_nil _ _ _ _
theorem ROps.at_ {w0 w : World} {v : Value} {l : List WOp} {V : List Nat} (h : ROps w0 w v l) (hV : Old V w0) : OpsAt V w v l := by
  have h' := h
  rcases h.2 with ⟨hv, hn⟩ | ⟨g, cap, cur, hv, _⟩
  · subst hv
    rw [List.eq_nil_of_length_eq_zero hn]; exact ⟨_, _, rfl, Nat.le_refl _, Nat.zero_le _, Row.nil _ _ _⟩
  · subst hv
    obtain ⟨A9, c9, e9, h91, h92, h93⟩ := own_form (V := V) h' hV
    exact ⟨A9, c9, e9, h91, h92, h93⟩
set_option maxRecDepth 100000 in
set_option maxHeartbeats 1000000 in
theorem rwrite_any (w0 : World) (l : List WOp) (at_ : Int) (s : ByteArray) (v : Value) (w : World) (K0 : Kept w0 w) (h : ROps w0 w v l) (hl : l.length ≤ 1000) :
    Calls Tryd.prog 56 #[v, .int .i64 at_, .string s] w fun e w' => ∃ r, e = .returned r ∧ ROps w0 w' r (l ++ [⟨false, ⟨at_, s⟩⟩]) ∧ Kept w0 w' := by
  have HO := Lib.hid h
  obtain ⟨A0, c0, rfl, _, _, _⟩ := own_form (V := []) h (by simp)
  clear h
  have hz := K0.size
  go_enter Tryd.func56, Tryd.ntmps56
  go_wp2_with (at_builtin; go_must (
    refine Tryd.elRo.wpList_app rfl (.tmp 7) (.tmp 12) rfl w0.heap.size _ l rfl (HO.out.alloc _) [] (some ⟨w.heap.size, 0, none⟩) 1 [(⟨false, ⟨at_, s⟩⟩ : WOp)] rfl ((Own.new w _ ([(⟨false, ⟨at_, s⟩⟩ : WOp)].flatMap opC)).row (by simp)) (opC_one _) (by unfold maxLen; simp only [List.length_cons, List.length_nil]; omega) (by simp only [List.length_cons, List.length_nil]; omega) (by simp; omega) ?_
    intro v9 w9 hap hgr hat
    obtain ⟨A9, c9, rfl, _, _, _⟩ := own_form (V := []) hap (by simp)
    have K9 := (K0.alloc _).grown hgr (fun k e => (HO.out.lt k e).1)
    have e9 : (l ++ [(⟨false, ⟨at_, s⟩⟩ : WOp)]).length = l.length + 1 := by simp
    rw [e9] at hap ⊢
    have HO9 : Hid (ROps w0 w9 (.slice A9 (l.length + 1) c9) (l ++ [(⟨false, ⟨at_, s⟩⟩ : WOp)])) := by show World.ownsRow _ _ _ _ _ _ _; rw [e9]; exact hap
    clear hap hgr hat e9))
  go_wp2
  go_ret
  exact ⟨_, rfl, HO9.out, K9⟩
set_option maxRecDepth 100000 in
set_option maxHeartbeats 1000000 in
theorem rflush_any (w0 : World) (l : List WOp) (v : Value) (w : World) (K0 : Kept w0 w) (h : ROps w0 w v l) (hl : l.length ≤ 1000) :
    Calls Tryd.prog 57 #[v] w fun e w' => ∃ r, e = .returned r ∧ ROps w0 w' r (l ++ [opF]) ∧ Kept w0 w' := by
  have HO := Lib.hid h
  obtain ⟨A0, c0, rfl, _, _, _⟩ := own_form (V := []) h (by simp)
  clear h
  have hz := K0.size
  go_enter Tryd.func57, Tryd.ntmps57
  go_wp2_with (at_builtin; go_must (
    refine Tryd.elRo.wpList_app rfl (.tmp 3) (.tmp 5) rfl w0.heap.size _ l rfl (HO.out.alloc _) [] (some ⟨w.heap.size, 0, none⟩) 1 [opF] rfl ((Own.new w _ ([opF].flatMap opC)).row (by simp)) (opC_one _) (by unfold maxLen; simp only [List.length_cons, List.length_nil]; omega) (by simp only [List.length_cons, List.length_nil]; omega) (by simp; omega) ?_
    intro v9 w9 hap hgr hat
    obtain ⟨A9, c9, rfl, _, _, _⟩ := own_form (V := []) hap (by simp)
    have K9 := (K0.alloc _).grown hgr (fun k e => (HO.out.lt k e).1)
    have e9 : (l ++ [opF]).length = l.length + 1 := by simp
    rw [e9] at hap ⊢
    have HO9 : Hid (ROps w0 w9 (.slice A9 (l.length + 1) c9) (l ++ [opF])) := by show World.ownsRow _ _ _ _ _ _ _; rw [e9]; exact hap
    clear hap hgr hat e9))
  go_wp2
  go_ret
  exact ⟨_, rfl, HO9.out, K9⟩
set_option maxHeartbeats 1000000 in
theorem rjour_any (V : List Nat) (d : Dk) (v : Value) (w : World) (h : DkAt V w v d) :
    Calls Tryd.prog 52 #[v] w fun e w' => e = .returned (.bool (suitsB d)) ∧ Kept w w' := by
  have H := Lib.hid h
  obtain ⟨_, _, rfl, ⟨A, c, rfl, hl, hm, hr⟩, ⟨A', c', rfl, hl', hm', hr'⟩⟩ := h
  unfold maxLen at hm hm'
  clear hr hr'
  have HN : Hid (suitsB d = (decide (61 < d.sec.length) && rightB d)) := rfl
  generalize suitsB d = sb at *
  go_enter Tryd.func52, Tryd.ntmps52
  go_wp2_with fail
  have OD := Lib.hid (Own.new w 29 [.slice A d.sec.length c, .slice A' d.cache.length c'])
  have K : Kept w (w.alloc (.cells #[.slice A d.sec.length c, .slice A' d.cache.length c'] 29)) := (Kept.refl w).alloc _
  generalize w.alloc (.cells #[.slice A d.sec.length c, .slice A' d.cache.length c'] 29) = w1 at *
  refine (rright_any V d _ _ (H.out.go K (Ext.refl _ _))).mono ?_
  rintro e w2 ⟨rfl, hk⟩
  replace K := K.trans hk
  replace OD := Lib.hid (OD.out.kept hk)
  clear hk
  obtain ⟨q1, q2, _, _⟩ := OD.out.two
  rcases Bool.eq_false_or_eq_true (rightB d) with hr | hr
  · rw [hr] at HN ⊢
    by_cases h1 : 61 < d.sec.length
    · have t1 : (d.sec.length : Int) > 61 := by omega
      have HE : Hid (sb = true) := by show _ = _; rw [HN.out, decide_eq_true h1]; rfl
      clear HN
      go_wp2
      go_ret
      exact ⟨by rw [HE.out]; first | rfl | (simp; omega), K⟩
    · have t1 : ¬ (d.sec.length : Int) > 61 := by omega
      have HE : Hid (sb = false) := by show _ = _; rw [HN.out, decide_eq_false h1]; rfl
      clear HN
      go_wp2
      go_ret
      exact ⟨by rw [HE.out]; first | rfl | (simp; omega), K⟩
  · rw [hr] at HN ⊢
    have HE : Hid (sb = false) := by show _ = _; rw [HN.out, Bool.and_false]
    clear HN
    go_wp2
    go_ret
    exact ⟨by rw [HE.out]; first | rfl | (simp; omega), K⟩
theorem ops_len (l : List WOp) : (l.flatMap opC).length = l.length * 3 := by
  induction l with
  | nil => rfl
  | cons a l ih => rw [List.flatMap_cons, List.length_append, ih]; simp [opC]; omega
set_option maxRecDepth 100000 in
set_option maxHeartbeats 1000000 in
theorem rsame_any (l : List WOp) (v u : Value) (w : World) (h : OpsAt [] w v l) (g : OpsAt [] w u l) :
    Calls Tryd.prog 18 #[v, u] w fun e w' => e = .returned (.bool true) ∧ Kept w w' := by
  obtain ⟨A, c, rfl, hl, hm, hr⟩ := h
  obtain ⟨A', c', rfl, hl', hm', hr'⟩ := g
  unfold maxLen at hm hm'
  have HA := Lib.hid hr
  have HB := Lib.hid hr'
  clear hr hr'
  go_enter Tryd.func18, Tryd.ntmps18
  go_wp2_with fail
  go_loopw [5] (fun iv wq => ∃ (k : Nat), k ≤ l.length ∧ iv = .int .i64 k ∧ Kept w wq) (fun iv _ => l.length - (intOf iv).toNat)
  case atStart => exact ⟨0, Nat.zero_le _, rfl, Kept.refl _⟩
  case round =>
    obtain ⟨k, hk, rfl, K⟩ := hrel
    by_cases hlt : k < l.length
    · obtain ⟨b, o, rfl, hb, _, hc⟩ := (HA.out.kept K) (by rw [ops_len]; omega)
      obtain ⟨b1, o1, rfl, hb1, _, hc1⟩ := (HB.out.kept K) (by rw [ops_len]; omega)
      obtain ⟨g1, g2, g3⟩ := ops_at hlt
      have p1 : wr.cell? ⟨b, o + k * 3, none⟩ = _ := hc _ _ g1
      have p2 : wr.cell? ⟨b, o + k * 3 + 1, none⟩ = _ := hc _ _ g2
      have p3 : wr.cell? ⟨b, o + k * 3 + 2, none⟩ = _ := hc _ _ g3
      have r1 : wr.cell? ⟨b1, o1 + k * 3, none⟩ = _ := hc1 _ _ g1
      have r2 : wr.cell? ⟨b1, o1 + k * 3 + 1, none⟩ = _ := hc1 _ _ g2
      have r3 : wr.cell? ⟨b1, o1 + k * 3 + 2, none⟩ = _ := hc1 _ _ g3
      clear hc hc1 g1 g2 g3
      generalize l[k] = x at *
      obtain ⟨f, xa, xd⟩ := x
      simp only at p1 p2 p3 r1 r2 r3
      have i0 : (0 : Int) ≤ (k : Int) := by omega
      have i1 : (k : Int) < (l.length : Int) := by omega
      go_wp2_with fail
      go_quiet (fail)
      go_wp2
      go_roundw
      case rel => exact ⟨k + 1, by omega, by go_num, K.drewN _⟩
      case measure => simp [intOf]; omega
    · obtain rfl : k = l.length := by omega
      go_wp2
      go_ret
      exact ⟨rfl, K⟩
set_option maxRecDepth 100000 in
set_option maxHeartbeats 1000000 in
theorem rops_any (V : List Nat) (l : List WOp) (u : Value) (w : World) (hu : OpsAt [] w u l) (hV : Old V w) (hl9 : l.length ≤ 1000) :
    Calls Tryd.prog 19 #[u] w fun e w' => ∃ r, e = .returned r ∧ OpsAt V w' r l ∧ Kept w w' := by
  have HOV := Lib.hid hV
  obtain ⟨A, c, rfl, hc1, hc2, hrow⟩ := hu
  unfold maxLen at hc2
  have HROW := Lib.hid hrow
  clear hrow hV
  go_enter Tryd.func19, Tryd.ntmps19
  go_wp2_with fail
  go_loopw [3, 8] (fun ov iv wq => ∃ (k : Nat) (B : Option Addr) (cap : Nat), k ≤ l.length ∧ iv = .int .i64 k ∧ ov = .slice B k cap ∧ wq.ownsRow w.heap.size 105 3 (.slice B k cap) (l.take k).length ((l.take k).flatMap opC) ∧ Kept w wq) (fun _ iv _ => l.length - (intOf iv).toNat)
  case atStart => exact ⟨0, none, 0, Nat.zero_le _, rfl, rfl, World.ownsRow_nil _ _ _ _, Kept.refl _⟩
  case round =>
    obtain ⟨k, B, cap, hk, rfl, rfl, ho, K⟩ := hrel
    have HO := Lib.hid ho
    clear ho
    by_cases hlt : k < l.length
    · obtain ⟨b2, o2, rfl, hb2, _, hcs2⟩ := (HROW.out.kept K) (by rw [ops_len]; omega)
      obtain ⟨g1, g2, g3⟩ := ops_at hlt
      have p1 : wr.cell? ⟨b2, o2 + k * 3, none⟩ = _ := hcs2 _ _ g1
      have p2 : wr.cell? ⟨b2, o2 + k * 3 + 1, none⟩ = _ := hcs2 _ _ g2
      have p3 : wr.cell? ⟨b2, o2 + k * 3 + 2, none⟩ = _ := hcs2 _ _ g3
      have zb2 := hb2
      clear hcs2 g1 g2 g3
      have HM : Hid (l.take (k + 1) = l.take k ++ [l[k]]) := by show _ = _; rw [List.take_succ_eq_append_getElem hlt]
      have hml : (l.take k).length = k := by rw [List.length_take]; omega
      generalize l[k] = x at *
      generalize l.take k = M at *
      have HML := Lib.hid hml
      clear hml
      obtain ⟨f, xa, xd⟩ := x
      simp only at p1 p2 p3
      go_upto_region 6 with (at_builtin; go_must (refine Tryd.elRo.wpList_app rfl (.tmp 12) (.tmp 18) rfl w.heap.size _ M rfl ((HO.out.alloc _).alloc _) [] (some ⟨wr.heap.size + 1, 0, none⟩) 1 [⟨f, xa, xd⟩] rfl ((Own.new1 wr _ 105 ([(⟨f, xa, xd⟩ : WOp)].flatMap opC)).row (by simp)) (opC_one _) (by rw [HML.out]; unfold maxLen; simp only [List.length_cons, List.length_nil]; omega) (by rw [HML.out]; simp only [List.length_cons, List.length_nil]; omega) (by have := K.size; simp; omega) ?_; intro v9 w9 hap hgr hat))
      rw [← HM.out] at hap
      have K9 := ((K.alloc _).alloc _).grown hgr (fun k e => (HO.out.lt k e).1)
      obtain ⟨A9, c9, rfl, _, _, _⟩ := own_form (V := []) hap (by simp)
      have e : (l.take (k + 1)).length = k + 1 := by rw [List.length_take]; omega
      rw [e] at hap ⊢
      have HE9 := Lib.hid e
      have HO9 := Lib.hid hap
      clear hap hgr hat e
      go_wp2
      go_roundw
      case rel => exact ⟨k + 1, A9, c9, by omega, by go_num, rfl, by rw [HE9.out]; exact HO9.out, K9⟩
      case measure => simp [intOf]; omega
    · obtain rfl : k = l.length := by omega
      rw [List.take_length] at HO
      have HR : Hid (ROps w wr (.slice B l.length cap) l) := HO.out
      go_wp2
      go_ret
      exact ⟨_, rfl, HR.out.at_ HOV.out, K⟩
end Go.Proofs.YtagpimahicgkmaaDoor
