/- Walk: mailsacklaw15.old. -/
import Derived.Test.YtjinnkbnllnllaaL15Act
import Derived.Test.YtjinnkbnllnllaaL15Awake
namespace Go.Proofs.Ytjinnkbnllnllaa
open Go.RowKit

/-- Is one of the first j messages this one? -/
def wasTo (b : Bx) (m : Ml) : Nat → Bool
  | 0 => decide (b.next ≤ m.uid)
  | j + 1 => wasTo b m j || ((mlAt b.mails j).uid == m.uid && (mlAt b.mails j).obj == m.obj && (mlAt b.mails j).size == m.size)
theorem was_start {b : Bx} {m : Ml} (h : b.next ≤ m.uid) : ∀ j, wasTo b m j = true
  | 0 => decide_eq_true h
  | j + 1 => by rw [wasTo, was_start h j, Bool.true_or]
theorem was_some {b : Bx} {m : Ml} {i : Nat} (h : (mlAt b.mails i).uid = m.uid ∧ (mlAt b.mails i).obj = m.obj ∧ (mlAt b.mails i).size = m.size) : ∀ j, i < j → wasTo b m j = true
  | 0, hj => by omega
  | j + 1, hj => by
    rw [wasTo]
    by_cases e : i = j
    · subst e
      rw [beq_t h.1, beq_t h.2.1, beq_t h.2.2]; simp
    · rw [was_some h j (by omega), Bool.true_or]
theorem was_old {b c : Bx} (h : OldMl b c) {m : Ml} (hm : m ∈ c.mails) : wasTo b m b.mails.length = true := by
  rcases h m hm with h | ⟨o, ho, h⟩
  · exact was_start h _
  · obtain ⟨i, hi, rfl⟩ := List.mem_iff_getElem.1 ho
    exact was_some (i := i) (by rw [mlAt_lt hi]; exact h) _ hi

set_option maxRecDepth 100000 in
set_option maxHeartbeats 2000000 in
theorem old_any (b c : Bx) (mv mv' : Value) (w : World) (h : MlsAt [] w mv b.mails) (h' : MlsAt [] w mv' c.mails) (hold : OldMl b c) :
    Calls Try.prog 32 #[.agg #[.string b.name, .int .i64 b.val, .int .i64 b.next, mv], .agg #[.string c.name, .int .i64 c.val, .int .i64 c.next, mv']] w fun e w' => e = .returned (.bool true) ∧ Kept w w' := by
  obtain ⟨MA, mc, rfl, hm1, hm2, hmr⟩ := h
  obtain ⟨NA, nc, rfl, hn1, hn2, hnr⟩ := h'
  have HMR := Lib.hid hmr
  have HNR := Lib.hid hnr
  have HOLD := Lib.hid (fun m hm => was_old hold (m := m) hm)
  clear hmr hnr hold
  unfold maxLen at hm2 hn2
  generalize hmn : b.mails.length = mn at *
  generalize hnn : c.mails.length = nn at *
  have HMN := Lib.hid hmn
  have HNN := Lib.hid hnn
  clear hmn hnn
  have HB : Hid (∀ (m : Ml), wasTo b m 0 = decide (b.next ≤ m.uid)) := fun m => rfl
  generalize hbn : b.name = bn at *
  generalize hbv : b.val = bv at *
  generalize hbx : b.next = bt at *
  generalize hcn : c.name = cn at *
  generalize hcv : c.val = cv at *
  generalize hcx : c.next = ct at *
  clear hbn hbv hbx hcn hcv hcx
  go_enter Try.func32, Try.ntmps32
  go_wp2
  go_loopw [13] (fun iv wr => ∃ i : Nat, i ≤ nn ∧ iv = .int .i64 i ∧ Own wr w.heap.size 40 [.string bn, .int .i64 bv, .int .i64 bt, .slice MA mn mc] ∧ Own wr (w.heap.size + 1) 40 [.string cn, .int .i64 cv, .int .i64 ct, .slice NA nn nc] ∧ Kept w wr) (fun iv _ => nn - (intOf iv).toNat)
  case atStart =>
    exact ⟨0, Nat.zero_le _, rfl, (Own.new w _ [_, _, _, _]).alloc _, Own.new1 w _ _ [_, _, _, _], ((Kept.refl w).alloc _).alloc _⟩
  case round =>
    obtain ⟨i, hi, rfl, ob, oc, hkw⟩ := hrel
    have OB := Lib.hid ob
    have OC := Lib.hid oc
    obtain ⟨b0, b1, b2, b3⟩ := ob.four
    obtain ⟨c0, c1, c2, c3⟩ := oc.four
    have zb := OB.out.lt
    have zc := OC.out.lt
    clear ob oc
    by_cases hlt : i < nn
    · obtain ⟨kb, ko, rfl, hkb, _, hcs⟩ := HNR.out.kept hkw (by rw [mls_length, HNN.out]; omega)
      have hi' : i < c.mails.length := by rw [HNN.out]; exact hlt
      obtain ⟨g1, g2, g3, g4⟩ := mls_at hi'
      replace g1 : wr.cell? ⟨kb, ko + i * 4, none⟩ = _ := hcs _ _ g1
      replace g2 : wr.cell? ⟨kb, ko + i * 4 + 1, none⟩ = _ := hcs _ _ g2
      replace g3 : wr.cell? ⟨kb, ko + i * 4 + 2, none⟩ = _ := hcs _ _ g3
      replace g4 : wr.cell? ⟨kb, ko + i * 4 + 3, none⟩ = _ := hcs _ _ g4
      have HW := Lib.hid (HOLD.out c.mails[i] (List.getElem_mem hi'))
      have HW0 := Lib.hid (HB.out c.mails[i])
      clear hcs
      generalize c.mails[i] = mm at *
      have HSTEP : Hid (∀ j, wasTo b mm (j + 1) = (wasTo b mm j || ((mlAt b.mails j).uid == mm.uid && (mlAt b.mails j).obj == mm.obj && (mlAt b.mails j).size == mm.size))) := fun j => rfl
      generalize hu1 : mm.uid = u1 at *
      generalize mm.flags = u2 at *
      generalize mm.obj = u3 at *
      generalize mm.size = u4 at *
      clear hu1
      obtain ⟨wo, hwo⟩ : ∃ z, z = wr := ⟨_, rfl⟩
      subst hwo
      have i0 : (0 : Int) ≤ (i : Int) := by omega
      have i1 : (i : Int) < (nn : Int) := by omega
      go_wp2
      go_loopw [7, 25] (fun tv iv wi => ∃ j : Nat, j ≤ mn ∧ iv = .int .i64 j ∧ tv = .bool (wasTo b mm j) ∧ Own wi wo.heap.size 47 [.int .i64 u1, .int .i64 u2, .int .i64 u3, .int .i64 u4] ∧ Kept wo wi) (fun _ iv _ => mn - (intOf iv).toNat)
      case atStart =>
        exact ⟨0, Nat.zero_le _, rfl, by rw [HW0.out], Own.new wo _ [_, _, _, _], (Kept.refl wo).alloc _⟩
      case round =>
        obtain ⟨j, hj, rfl, rfl, om, hki⟩ := hrel
        have OM := Lib.hid om
        obtain ⟨d0, d1, d2, d3⟩ := om.four
        have zm := OM.out.lt
        clear om b0 b1 b2 b3 c0 c1 c2 c3 g1 g2 g3 g4
        by_cases hjl : j < mn
        · obtain ⟨lb, lo, rfl, hlb, _, hcs⟩ := HMR.out.kept (hkw.trans hki) (by rw [mls_length, HMN.out]; omega)
          have hj' : j < b.mails.length := by rw [HMN.out]; exact hjl
          obtain ⟨g1, g2, g3, g4⟩ := mls_at hj'
          replace g1 : wr.cell? ⟨lb, lo + j * 4, none⟩ = _ := hcs _ _ g1
          replace g2 : wr.cell? ⟨lb, lo + j * 4 + 1, none⟩ = _ := hcs _ _ g2
          replace g3 : wr.cell? ⟨lb, lo + j * 4 + 2, none⟩ = _ := hcs _ _ g3
          replace g4 : wr.cell? ⟨lb, lo + j * 4 + 3, none⟩ = _ := hcs _ _ g4
          have HS1 := Lib.hid (HSTEP.out j)
          rw [mlAt_lt hj'] at HS1
          clear hcs
          generalize b.mails[j] = oo at *
          generalize oo.uid = v1 at *
          generalize oo.flags = v2 at *
          generalize oo.obj = v3 at *
          generalize oo.size = v4 at *
          have j0 : (0 : Int) ≤ (j : Int) := by omega
          have j1 : (j : Int) < (mn : Int) := by omega
          generalize wasTo b mm j = was at *
          obtain ⟨q1, hq1⟩ : ∃ q, (v1 == u1) = q := ⟨_, rfl⟩
          obtain ⟨q3, hq3⟩ : ∃ q, (v3 == u3) = q := ⟨_, rfl⟩
          obtain ⟨q4, hq4⟩ : ∃ q, (v4 == u4) = q := ⟨_, rfl⟩
          have HS2 : Hid (wasTo b mm (j + 1) = (was || (q1 && q3 && q4))) := by show _ = _; rw [HS1.out, hq1, hq3, hq4]
          clear HS1
          cases was <;> cases q1 <;> cases q3 <;> cases q4
          all_goals
            go_wp2
            go_roundw
            case rel => exact ⟨j + 1, by omega, by go_num, by rw [HS2.out]; rfl, OM.out.alloc _, hki.alloc _⟩
            case measure => simp [intOf]; omega
        · obtain rfl : j = mn := by omega
          rw [HW.out]
          go_wp2
          go_roundw
          case rel => exact ⟨i + 1, by omega, by go_num, OB.out.kept hki, OC.out.kept hki, hkw.trans hki⟩
          case measure => simp [intOf]; omega
    · obtain rfl : i = nn := by omega
      go_wp2
      go_ret
      exact ⟨rfl, hkw⟩
end Go.Proofs.Ytjinnkbnllnllaa
