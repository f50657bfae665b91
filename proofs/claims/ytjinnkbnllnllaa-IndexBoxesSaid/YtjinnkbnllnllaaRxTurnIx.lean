/- mailsackref15.turned of a right index: the mailboxes stay sorted. -/
import Derived.Test.YtjinnkbnllnllaaRxTurned
import Derived.Test.YtjinnkbnllnllaaRxRight
namespace Go.Proofs.Ytjinnkbnllnllaa
open Go.RowKit

theorem bpAt_take {l : List Bp} {k i : Nat} (h : i < k) : bpAt (l.take k) i = bpAt l i := by
  simp [bpAt, List.getD, List.getElem?_take, h]
theorem sort_id {l : List Bp} (h : ∀ i, 1 < i → i < l.length → gtB (bpAt l (i - 1)).1.name (bpAt l i).1.name = false) : ∀ k, k ≤ l.length → sortTo l k = l.take k
  | 0, _ => by simp [sortTo]
  | k + 1, hk => by
    rw [sortTo, sort_id h k (by omega), insP]
    have hl : (l.take k).length = k := by rw [List.length_take]; omega
    have hs : slide (l.take k) (bpAt l k).1.name k = k := by
      by_cases h1 : k ≤ 1
      · exact slide_stop (.inl h1)
      · refine slide_stop (.inr ?_)
        rw [bpAt_take (by omega)]
        exact h k (by omega) (by omega)
    rw [hl, hs, List.take_of_length_le (by omega), List.drop_of_length_le (by omega), bpAt_lt (by omega), List.take_succ_eq_append_getElem (by omega)]
theorem gt_of_le {a b : ByteArray} (h : nmLe b a = false) : gtB a b = false := by
  rw [nmLe_ge] at h
  unfold geB at h
  unfold gtB
  rw [Bool.not_eq_false'] at h
  rw [h]; rfl
/-- The names of a right index rise. -/
theorem right_rise {x : Ix} (h : rightB x = true) {i : Nat} (h1 : 1 < i) (hi : i < x.boxes.length) : gtB (bxAt x (i - 1)).name (bxAt x i).name = false := by
  have := allTo_iff.1 (right_len h).2.2.2.2.1 i hi
  simp only [stepB, Bool.and_eq_true, Bool.not_eq_true', Bool.and_eq_false_iff, decide_eq_false_iff_not] at this
  rcases this.2 with h2 | h2
  · exact absurd h1 h2
  · exact gt_of_le h2
theorem bp_name {x : Ix} {ps : List Bp} (hps : ps.map (·.1) = x.boxes) (i : Nat) : (bpAt ps i).1 = bxAt x i := by
  unfold bpAt bxAt
  rw [← hps]
  simp only [List.getD, List.getElem?_map]
  cases ps[i]? <;> rfl
theorem bp_set {l : List Bp} {a : Nat} {p : Bp} (ha : a < l.length) (i : Nat) : bpAt (l.set a p) i = if i = a then p else bpAt l i := by
  unfold bpAt
  by_cases h : i = a
  · subst h; simp [ha]
  · rw [if_neg h]; simp [List.getD, List.getElem?_set_ne (Ne.symm h)]
def IxRet (V : List Nat) (x : Ix) (w : World) (e : Ending) (w' : World) : Prop := ∃ v, e = .returned v ∧ IxAt V w' v x ∧ Kept w w'
theorem turn_right (V : List Nat) (x : Ix) (A : Option Addr) (n c : Nat) (SA : Option Addr) (sn sc : Nat) (gv : Int) (at_ : Nat) (pb : Bx) (PA : Option Addr) (pn pc : Nat) (w : World) (hV : Old V w) (h : IxAt V w (.agg #[.slice A n c, .slice SA sn sc, .int .i64 gv]) x) (hr : rightB x = true)
    (ha : at_ < x.boxes.length) (hnm : pb.name = (bxAt x at_).name) (hm : MlsAt V w (.slice PA pn pc) pb.mails) :
    Calls Try.prog 44 #[.agg #[.slice A n c, .slice SA sn sc, .int .i64 gv], .int .i64 at_, .agg #[.string pb.name, .int .i64 pb.val, .int .i64 pb.next, .slice PA pn pc]] w (IxRet V (setBx x at_ pb) w) := by
  obtain ⟨hg, ⟨ps, hps, ⟨A', c', e, hc1, hc2, hrow⟩, hml⟩, hs⟩ := h.parts
  cases e
  have hpl : ps.length = x.boxes.length := by rw [← hps, List.length_map]
  have hf : ∀ p ∈ ps, ∃ A n c, p.2 = .slice A n c := fun p hp => by obtain ⟨A, c, e⟩ := (hml p hp).form; exact ⟨A, _, c, e⟩
  obtain ⟨h1, h2, _⟩ := right_len hr
  refine (turned_any V ps (ps.set at_ (pb, .slice PA pn pc)) A ps.length c SA sn sc gv at_ pb PA pn pc w hV rfl hc1 hc2 (by omega) (hrow.go (Kept.refl _) (Ext.nil _ _)) hf rfl).mono ?_
  rintro e w' ⟨B, b, rfl, k1, k2, k3, k4⟩
  have hid := sort_id (l := ps.set at_ (pb, .slice PA pn pc)) (fun i hi hil => by
    have e1 : ∀ j, (bpAt (ps.set at_ (pb, .slice PA pn pc)) j).1.name = (bxAt x j).name := fun j => by
      rw [bp_set (by omega)]
      split
      · rename_i e; subst e; exact hnm
      · rw [bp_name hps]
    rw [e1, e1]
    exact right_rise hr hi (by rw [List.length_set] at hil; omega)) _ (Nat.le_refl _)
  rw [hid, List.take_length] at k3
  refine ⟨_, rfl, ⟨_, _, by rw [show (setBx x at_ pb).given = gv from hg.symm], ⟨_, ?_, ⟨B, b, rfl, k1, k2, k3⟩, fun p hp => ?_⟩, hs.go k4 (Ext.refl _ _)⟩, k4⟩
  · rw [List.map_set, hps]; rfl
  · rcases List.mem_or_eq_of_mem_set hp with hp | rfl
    · exact (hml p hp).go k4 (Ext.refl _ _)
    · exact hm.go k4 (Ext.refl _ _)
end Go.Proofs.Ytjinnkbnllnllaa
