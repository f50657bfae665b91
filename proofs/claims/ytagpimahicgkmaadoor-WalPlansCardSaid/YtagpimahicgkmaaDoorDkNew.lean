/- Walk: disk.New. -/
import Derived.Test.YtagpimahicgkmaaDoorMa
import Derived.Test.YtagpimahicgkmaaDoorShelf
namespace Go.Proofs.YtagpimahicgkmaaDoor
open Go.RowKit

def zero64 : ByteArray := ⟨(List.replicate 64 0).toArray⟩
def newR (n : Int) : Dk × Int := if 1 ≤ n ∧ n ≤ 1024 then (⟨List.replicate n.toNat zero64, []⟩, 0) else (⟨[], []⟩, 1)
theorem repeat64 : (Lib.repeatL [(0 : UInt8)] 64) = List.replicate 64 0 := by decide
theorem rep_set {α : Type} (n k : Nat) (a b : α) (h : k < n) : (List.replicate k a ++ List.replicate (n - k) b).set k a = List.replicate (k + 1) a ++ List.replicate (n - (k + 1)) b := by
  apply List.ext_getElem
  · simp; omega
  · intro i h1 h2
    rw [List.getElem_set]
    by_cases e : k = i
    · subst e; simp [List.getElem_append]
    · rw [if_neg e]
      simp only [List.getElem_append, List.length_replicate, List.getElem_replicate]
      by_cases e2 : i < k
      · rw [dif_pos e2, dif_pos (by omega)]
      · rw [dif_neg e2, dif_neg (by omega)]

set_option maxRecDepth 100000 in
set_option maxHeartbeats 400000 in
theorem new_bad (V : List Nat) (n : Int) (w : World) (h : n < 1 ∨ 1024 < n) :
    Calls Tryd.prog 41 #[.int .i64 n] w fun e w' => ∃ s' c', e = .returned (.tuple #[.agg #[s', c'], .int .i64 (newR n).2]) ∧ DkAt V w' (.agg #[s', c']) (newR n).1 ∧ Kept w w' := by
  have HR : Hid (newR n = (⟨[], []⟩, 1)) := by show _ = _; rw [newR, if_neg (by omega)]
  rcases h with h | h
  all_goals
    go_enter Tryd.func41, Tryd.ntmps41
    go_wp2
    refine bodyPost_ret (v := .tuple #[.agg #[.slice none 0 0, .slice none 0 0], .int .i64 1]) ?_ rfl ?_
    · simp [results, Tryd.results41, go_sem]
    · rw [HR.out]
      exact ⟨_, _, rfl, ⟨_, _, rfl, strsAt_nil _ _, wrsAt_nil _ _⟩, (Kept.refl w).alloc _⟩

set_option maxRecDepth 100000 in
set_option maxHeartbeats 400000 in
theorem new_any (V : List Nat) (n : Int) (w : World) (hV : Old V w) :
    Calls Tryd.prog 41 #[.int .i64 n] w fun e w' => ∃ s' c', e = .returned (.tuple #[.agg #[s', c'], .int .i64 (newR n).2]) ∧ DkAt V w' (.agg #[s', c']) (newR n).1 ∧ Kept w w' := by
  by_cases h1 : 1 ≤ n
  · by_cases h2 : n ≤ 1024
    · obtain ⟨m, rfl⟩ := Int.eq_ofNat_of_zero_le (show 0 ≤ n by omega)
      have HR : Hid (newR m = (⟨List.replicate m zero64, []⟩, 0)) := by show _ = _; simp [newR, h1, h2]
      have hmk := run_mkStrs m (by omega)
      go_enter Tryd.func41, Tryd.ntmps41
      go_wp2_with fail
      refine (Tryd.strings_Repeat ⟨#[0]⟩ 64 _ (by decide) (by decide)).mono ?_
      rintro e w1 ⟨rfl, hk1⟩
      have hz : (⟨(Lib.repeatL [(0 : UInt8)] 64).toArray⟩ : ByteArray) = zero64 := by rw [repeat64]; rfl
      have hz' : (⟨(Lib.repeatL (⟨#[0]⟩ : ByteArray).data.toList 64).toArray⟩ : ByteArray) = zero64 := hz
      rw [hz']
      clear hz hz'
      generalize hzz : zero64 = z at *
      clear hzz
      have HO1 := Lib.hid ((Own.new w _ [Value.slice none 0 0, Value.slice none 0 0]).kept hk1)
      have hkw1 : Kept w w1 := ((Kept.refl w).alloc _).trans hk1
      have hsz : w.heap.size < w1.heap.size := HO1.out.lt
      clear hk1
      go_wp2_with fail
      go_loopw [19] (fun i wr => ∃ k : Nat, k ≤ m ∧ i = .int .i64 k ∧ Own wr w1.heap.size 9 (strs (List.replicate k z ++ List.replicate (m - k) ByteArray.empty)) ∧ Kept w1 wr) (fun i _ => m - (intOf i).toNat)
      case atStart => exact ⟨0, Nat.zero_le _, rfl, by have := Own.new w1 9 (List.replicate m (Value.string ByteArray.empty)); simpa [strs] using this, (Kept.refl w1).alloc _⟩
      case round =>
        obtain ⟨k, hk, rfl, ho, hkept⟩ := hrel
        have HO := Lib.hid ho
        by_cases hlt : k < m
        · obtain ⟨x, hx⟩ : ∃ x, wr.cell? ⟨w1.heap.size, k, none⟩ = some (.string x) := by
            rw [ho.cell?, strs_at (by simp; omega)]; exact ⟨_, rfl⟩
          have hf := ho.frozen k
          have HY := Lib.hid (rep_set m k z ByteArray.empty hlt)
          clear ho
          go_wp2
          go_roundw
          case rel => exact ⟨k + 1, by omega, by go_num, by rw [← HY.out, strs_set]; exact HO.out.set_ _ _, hkept.setCell (by simp) _⟩
          case measure => simp [intOf]; omega
        · have hkm : Hid (k = m) := by show k = m; omega
          have HO2 := Lib.hid (HO1.out.kept hkept)
          obtain ⟨p1, p2, p3, p4⟩ := HO2.out.two
          clear ho
          go_wp2
          have ho6 := HO2.out.put2 (.slice (some ⟨w1.heap.size, 0, none⟩) m m) (.slice none 0 0)
          obtain ⟨r1, r2, _, _⟩ := ho6.two
          refine bodyPost_ret (v := .tuple #[.agg #[.slice (some ⟨w1.heap.size, 0, none⟩) m m, .slice none 0 0], .int .i64 0]) ?_ rfl ?_
          · simp [results, Tryd.results41, go_sem, r1, r2]
          · rw [HR.out]
            refine ⟨_, _, rfl, ⟨_, _, rfl, strsAt_own (g := w1.heap.size) (t := 9) ?_ (by simp) (by unfold maxLen; omega) (fun hh => by have := hV _ hh; omega), wrsAt_nil _ _⟩, ?_⟩
            · have := (HO.out.far (p := ⟨w.heap.size, 0, none⟩) (by simp; omega) (.slice (some ⟨w1.heap.size, 0, none⟩) m m)).far (p := ⟨w.heap.size, 1, none⟩) (by simp; omega) (.slice none 0 0)
              rw [hkm.out] at this
              simpa using this
            · exact ((hkw1.trans hkept).setCell (by simp) _).setCell (by simp) _
    · exact new_bad V n w (by omega)
  · exact new_bad V n w (by omega)
end Go.Proofs.YtagpimahicgkmaaDoor
