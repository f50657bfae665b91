/- Walk: index.with. -/
import Derived.Test.YtjinnkbnllnllaaIxDel
import Derived.OneCell
import Derived.Deep.Onto
namespace Go.Proofs.Ytjinnkbnllnllaa
open Go.RowKit

def withMails (b : Bx) (ml : List Ml) : Bx := ⟨b.name, b.val, b.next, ml⟩
def WithPost (V : List Nat) (w : World) (l : List Bx) (at_ : Nat) (ml : List Ml) (sv : Value) (g : Int) (e : Ending) (w' : World) : Prop :=
  ∃ (r bc : Nat) (ps : List Bp), e = .returned (.agg #[.slice (some ⟨r, 0, none⟩) l.length bc, sv, .int .i64 g]) ∧ ps.map (·.1) = l.set at_ (withMails (l.getD at_ bx0) ml) ∧ (∀ p ∈ ps, MlsAt V w p.2 p.1.mails) ∧
    w'.ownsRow w.heap.size 40 4 (.slice (some ⟨r, 0, none⟩) l.length bc) l.length (bxs ps) ∧ Kept w w'

theorem Own.put3' {w : World} {g : Nat} {t : TypeId} {x y z : Value} (h : Own w g t [x, y, z]) (a b c : Value) : Own (((w.setCell ⟨g, 0, none⟩ a).setCell ⟨g, 1, none⟩ b).setCell ⟨g, 2, none⟩ c) g t [a, b, c] := ((h.set_ 0 a).set_ 1 b).set_ 2 c
theorem ownBlock_of_row {w : World} {base : Nat} {e : TypeId} {size n : Nat} {v : Value} {xs : List Value} (h : w.ownsRow base e size v n xs) (hn : 0 < n) : ∃ r c, v = .slice (some ⟨r, 0, none⟩) n c ∧ base ≤ r ∧ r < w.heap.size ∧ n ≤ c ∧ c ≤ maxLen := by
  rcases h.2 with ⟨_, h0⟩ | ⟨r, c, cur, e, h1, h2, h3, h4, _⟩
  · omega
  · exact ⟨r, c, e, h1, (Array.getElem?_eq_some_iff.1 h2).1, h3, h4⟩

theorem bxs_mails {ps : List Bp} {k : Nat} (h : k < ps.length) (ml : List Ml) (u : Value) : (bxs ps).set (k * 4 + 3) u = bxs (ps.set k (withMails ps[k].1 ml, u)) :=
  (flat4_set bxc bxc_four ps k 3 (by omega) (withMails ps[k].1 ml, u) u h rfl).symm
theorem with_map {ps : List Bp} {l : List Bx} {k : Nat} (hps : ps.map (·.1) = l) (h : k < ps.length) (ml : List Ml) (u : Value) : (ps.set k (withMails ps[k].1 ml, u)).map (·.1) = l.set k (withMails (l.getD k bx0) ml) := by
  have e : l[k]? = some ps[k].1 := by rw [← hps]; simp [h]
  have e2 : l.getD k bx0 = ps[k].1 := by simp [List.getD, e]
  rw [e2, List.map_set, hps]

set_option maxRecDepth 100000 in
set_option maxHeartbeats 1000000 in
theorem with_any (V : List Nat) (l : List Bx) (bv sv mv : Value) (g : Int) (at_ : Nat) (ml : List Ml) (w : World) (h : BxsAt V w bv l) (hs : ∃ A n c, sv = .slice A n c) (hm : MlsAt V w mv ml) (ha : at_ < l.length) (hl : l.length ≤ 1000) :
    Calls Try.prog 34 #[.agg #[bv, sv, .int .i64 g], .int .i64 at_, mv] w (WithPost V w l at_ ml sv g) := by
  obtain ⟨ps, hps, ⟨A, c, rfl, hc1, hc2, hrow⟩, hmls⟩ := h
  obtain ⟨SA, sn, sc, rfl⟩ := hs
  obtain ⟨MA, mc, hmv⟩ := hm.form
  have HPS := Lib.hid hps
  have hpl : ps.length = l.length := by rw [← hps, List.length_map]
  have HPL := Lib.hid hpl
  have HROW := Lib.hid (hrow.go (Kept.refl _) (Ext.nil _ _))
  have HMLS := Lib.hid hmls
  have HM := Lib.hid hm
  have hone := bxs_one ps (fun p hp => by obtain ⟨A, c, e⟩ := (hmls p hp).form; exact ⟨A, _, c, e⟩)
  have HONE := Lib.hid hone
  have hpa : at_ < ps.length := by omega
  clear hps hrow hmls hm hone
  rw [hpl]
  generalize hln : l.length = n at *
  have HLN := Lib.hid hln
  clear hln
  subst hmv
  unfold maxLen at hc2
  generalize ml.length = mn at *
  go_enter Try.func34, Try.ntmps34
  go_wp2_with fail
  have HC := cloneBx_any ps A c ((w.alloc (.cells #[.slice A n c, .slice SA sn sc, .int .i64 g] 25)).alloc (.cells #[.slice none 0 0, .slice none 0 0, .int .i64 0] 25)) (HROW.out.kept (((Kept.refl w).alloc _).alloc _)) HONE.out (by omega)
  rw [hpl] at HC
  refine HC.mono ?_
  rintro e w1 ⟨B, bc, rfl, ho1, hk1⟩
  obtain ⟨r, bc', e, hr1, hr2, hr3, hr4⟩ := ownBlock_of_row ho1 (by omega)
  cases e
  unfold maxLen at hr4
  simp only [World.size_alloc] at hr1
  have OX := Lib.hid (((Own.new w 25 [.slice A n c, .slice SA sn sc, .int .i64 g]).alloc (.cells #[.slice none 0 0, .slice none 0 0, .int .i64 0] 25)).kept hk1)
  have OR := Lib.hid ((Own.new1 w (.cells #[.slice A n c, .slice SA sn sc, .int .i64 g] 25) 25 [.slice none 0 0, .slice none 0 0, .int .i64 0]).kept hk1)
  have OW := Lib.hid ho1
  have hkw1 := (((Kept.refl w).alloc (.cells #[.slice A n c, .slice SA sn sc, .int .i64 g] 25)).alloc (.cells #[.slice none 0 0, .slice none 0 0, .int .i64 0] 25)).trans hk1
  obtain ⟨q1, q2, q3, q4, q5, q6⟩ := OX.out.three
  obtain ⟨p1, p2, p3, p4, p5, p6⟩ := OR.out.three
  have c3 : w1.cell? ⟨r, at_ * 4 + 3, none⟩ = some ps[at_].2 := by
    rw [World.ownsRow.cellAt ho1 _ (by omega)]; exact (bxs_at hpa).2.2.2
  have f3 := World.ownsRow.frozenAt ho1 (at_ * 4 + 3)
  have a0 : (0 : Int) ≤ (at_ : Int) := by omega
  have a1 : (at_ : Int) < (n : Int) := by omega
  have hx1 := OX.out.lt
  have hx2 := OR.out.lt
  clear hk1 ho1 HC
  obtain ⟨old, c3⟩ : ∃ old, w1.cell? ⟨r, at_ * 4 + 3, none⟩ = some old := ⟨_, c3⟩
  go_wp2
  have n1 : (Value.slice (some ⟨r, 0, none⟩) n bc).ownBlock ≠ some w.heap.size := fun e => by have := ownBlock_eq e; omega
  have n2 : (Value.slice (some ⟨r, 0, none⟩) n bc).ownBlock ≠ some (w.heap.size + 1) := fun e => by have := ownBlock_eq e; omega
  have o1 := ownsRow_setCell_other OW.out (a := ⟨w.heap.size, 0, none⟩) n1 (.slice (some ⟨r, 0, none⟩) n bc)
  have o2 := (World.ownsRow.stored o1 (at_ * 4 + 3) (.slice MA mn mc)).1
  have o3 := ownsRow_setCell_other (ownsRow_setCell_other (ownsRow_setCell_other o2 (a := ⟨w.heap.size + 1, 0, none⟩) n2 (.slice (some ⟨r, 0, none⟩) n bc)) (a := ⟨w.heap.size + 1, 1, none⟩) n2 (.slice SA sn sc)) (a := ⟨w.heap.size + 1, 2, none⟩) n2 (.int .i64 g)
  have r0 := ((OR.out.far (p := ⟨w.heap.size, 0, none⟩) (by simp) (.slice (some ⟨r, 0, none⟩) n bc)).far (p := ⟨r, at_ * 4 + 3, none⟩) (by simp; omega) (.slice MA mn mc)).put3' (.slice (some ⟨r, 0, none⟩) n bc) (.slice SA sn sc) (.int .i64 g)
  obtain ⟨s1, s2, s3, _, _, _⟩ := r0.three
  refine bodyPost_ret (v := .agg #[.slice (some ⟨r, 0, none⟩) n bc, .slice SA sn sc, .int .i64 g]) (by simp [results, Try.results34, go_sem, s1, s2, s3]) rfl ?_
  rw [bxs_mails hpa ml] at o3
  have hmap := with_map HPS.out hpa ml (.slice MA mn mc)
  refine ⟨r, bc, ps.set at_ (withMails ps[at_].1 ml, .slice MA mn mc), by rw [HLN.out], hmap, fun p hp => ?_, ?_, ?_⟩
  · rcases List.mem_or_eq_of_mem_set hp with hp | rfl
    · exact HMLS.out p hp
    · exact HM.out
  · rw [HLN.out]; exact World.ownsRow.mono o3 (by simp; omega)
  · exact ((((hkw1.setCell (p := ⟨w.heap.size, 0, none⟩) (Nat.le_refl _) _).setCell (p := ⟨r, at_ * 4 + 3, none⟩) (by simp only []; omega) _).setCell (p := ⟨w.heap.size + 1, 0, none⟩) (by simp) _).setCell (p := ⟨w.heap.size + 1, 1, none⟩) (by simp) _).setCell (p := ⟨w.heap.size + 1, 2, none⟩) (by simp) _
end Go.Proofs.Ytjinnkbnllnllaa
