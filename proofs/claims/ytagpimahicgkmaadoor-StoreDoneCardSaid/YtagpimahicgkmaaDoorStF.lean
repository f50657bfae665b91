/- Walk: (*state).fill. -/
import Derived.Test.YtagpimahicgkmaaDoorStW
namespace Go.Proofs.YtagpimahicgkmaaDoor
open Go.RowKit

/-- The writes of an object's sectors. -/
def fillL (cl b : Nat) (x : ByteArray) : List Wr := (List.range (countN cl)).map fun (i : Nat) => (⟨(firstN cl b + i : Nat), (padB x (capN cl)).extract (i * 64) ((i + 1) * 64)⟩ : Wr)
theorem fillL_len (cl b : Nat) (x : ByteArray) : (fillL cl b x).length = countN cl := by simp [fillL]
theorem fillL_succ (cl b : Nat) (x : ByteArray) {k : Nat} (h : k < countN cl) : (fillL cl b x).take (k + 1) = (fillL cl b x).take k ++ [⟨(firstN cl b + k : Nat), (padB x (capN cl)).extract (k * 64) ((k + 1) * 64)⟩] := by
  rw [List.take_succ_eq_append_getElem (by rw [fillL_len]; exact h)]
  simp [fillL]

theorem w64a (k : Nat) (h : k ≤ 1000) : wrap64 ((k : Int) * 64) = (k : Int) * 64 := IntWalk.wrap64_in _ (by omega)
theorem w64b (k : Nat) (h : k ≤ 1000) : wrap64 ((k : Int) + 1) = (k : Int) + 1 := IntWalk.wrap64_in _ (by omega)
theorem w64c (k : Nat) (h : k ≤ 1000) : wrap64 (((k : Int) + 1) * 64) = ((k : Int) + 1) * 64 := IntWalk.wrap64_in _ (by omega)
theorem w64d (k n : Nat) (h : k ≤ 1000) (h' : n ≤ 100000) : wrap64 ((n : Int) + (k : Int)) = (n : Int) + (k : Int) := IntWalk.wrap64_in _ (by omega)

set_option maxRecDepth 100000 in
set_option maxHeartbeats 2000000 in
theorem fill_any (V V0 V1 : Nat → Prop) (s cl b : Nat) (x : ByteArray) (l : List Slot) (tk0 tk1 : List Bool) (ws : List Wr) (w : World) (h : StAt V V0 V1 w s l tk0 tk1 ws) (hb : b ≤ 1000) (hx : x.size ≤ capN cl) (hws : ws.length ≤ 10000) :
    Calls Tryd.prog 94 #[.pointer (some ⟨s, 0, none⟩), .int .i64 (cl : Int), .int .i64 (b : Int), .string x] w fun e w' => e = .returned (.tuple #[]) ∧ StAt V V0 V1 w' s l tk0 tk1 (ws ++ fillL cl b x) ∧ Turn (fun k => ¬ V k) w w' := by
  have HS := Lib.hid h
  clear h
  have hcp := capN_le cl
  have hct := countN_le cl
  have HFL := Lib.hid (fun k => @fillL_succ cl b x k)
  have HFN := Lib.hid (fillL_len cl b x)
  have HPS : Hid ((padB x (capN cl)).size = 64 * countN cl) := by
    show _ = _
    rw [padB_size, Nat.max_eq_right hx]
    unfold capN countN; split <;> rfl
  have hfn : firstN cl b ≤ 100000 := by unfold firstN; split <;> omega
  go_enter Tryd.func94, Tryd.ntmps94
  go_wp2_with fail
  refine (cap_any cl w).mono ?_
  rintro e _ ⟨rfl, rfl⟩
  go_wp2_with fail
  refine (pad_any x (capN cl) w (by omega) (by omega)).mono ?_
  rintro e w1 ⟨rfl, hk⟩
  replace HS := Lib.hid (HS.out.go hk)
  have HT : Hid (Turn (fun k => ¬ V k) w w1) := Turn.of_kept hk
  clear hk hx hcp
  go_wp2_with fail
  refine (sectors_any cl b w1 hb).mono ?_
  rintro e _ ⟨rfl, rfl⟩
  generalize hfl : fillL cl b x = fl at *
  generalize hpd : padB x (capN cl) = pd at *
  generalize hcn : countN cl = cn at *
  generalize hfn' : firstN cl b = fn at *
  have HX : Hid (fillL cl b x = fl) := hfl
  clear hfl hpd hcn hfn' hb
  go_wp2_with fail
  go_loopw [24] (fun iv wq => ∃ k : Nat, k ≤ cn ∧ iv = .int .i64 k ∧ StAt V V0 V1 wq s l tk0 tk1 (ws ++ fl.take k) ∧ Turn (fun k => ¬ V k) w wq) (fun iv _ => cn - (intOf iv).toNat)
  case atStart => exact ⟨0, Nat.zero_le _, rfl, by rw [List.take_zero, List.append_nil]; exact HS.out, HT.out⟩
  case round =>
    obtain ⟨k, hk, rfl, ⟨g, q0, q1, wv, hS⟩, hT⟩ := hrel
    have HT2 := Lib.hid hT
    have HS2 := Lib.hid hS
    by_cases hlt : k < cn
    · have HR := Lib.hid hS.row
      obtain ⟨A, c, rfl, _, _, _⟩ := own_form (V := []) hS.row (by simp)
      have cs3 := hS.st.cell? 3
      have fs3 := hS.st.frozen 3
      have zs := hS.st.lt
      dsimp only [List.getElem?_cons_zero, List.getElem?_cons_succ] at cs3
      have HFK := Lib.hid (HFL.out k hlt)
      have hml : (ws ++ fl.take k).length ≤ 10016 := by
        rw [List.length_append, List.length_take]
        have := HFN.out
        omega
      clear hS hT
      generalize hM : ws ++ fl.take k = M at *
      have HM := Lib.hid hM
      clear hM
      have e0 : (0 : Int) ≤ (k : Int) := by omega
      have hk9 : k ≤ 1000 := by omega
      have e7 : (0 : Int) ≤ (k : Int) * 64 := by omega
      have e8 : (k : Int) * 64 ≤ ((k : Int) + 1) * 64 := by omega
      have e9 : ((k : Int) + 1) * 64 ≤ (pd.size : Int) := by have := HPS.out; omega
      have e10 : (0 : Int) ≤ ((k : Int) + 1) * 64 := by omega
      have hpz : pd.size ≤ 100000 := by have := HPS.out; omega
      go_upto_region 6 with fail
      have HOX := Lib.hid (Own.new wr 38 ([(⟨(fn + k : Nat), pd.extract (k * 64) ((k + 1) * 64)⟩ : Wr)].flatMap wrC))
      have HNL : Hid ([(⟨(fn + k : Nat), pd.extract (k * 64) ((k + 1) * 64)⟩ : Wr)].flatMap wrC = [.int .i64 ((fn : Int) + (k : Int)), .string (pd.extract (k * 64) ((k + 1) * 64))]) := by show [Value.int .i64 ((fn + k : Nat) : Int), .string _] = _; rw [show ((fn + k : Nat) : Int) = (fn : Int) + (k : Int) by omega]
      clear e7 e8 e9 e10 hpz
      go_upto_region 7 with (at_builtin; go_must (
        refine Tryd.elWr.wpList_app rfl (.tmp 38) (.tmp 44) rfl 0 (.slice A M.length c) M rfl (ownsRow_kept HR.out ((Kept.refl wr).alloc _)) [] (some ⟨wr.heap.size, 0, none⟩) 1 [(⟨(fn + k : Nat), pd.extract (k * 64) ((k + 1) * 64)⟩ : Wr)] rfl (by rw [HNL.out] at HOX ⊢; exact HOX.out.row (by simp)) (wrC_one _) (by unfold maxLen; simp only [List.length_cons, List.length_nil]; omega) (by simp only [List.length_cons, List.length_nil]; omega) (Nat.zero_le _) ?_
        intro v9 w9 hap hgr hat
        have OS9 := Lib.hid ((HS2.out.st.alloc (.cells #[.int .i64 ((fn : Int) + (k : Int)), .string (pd.extract (k * 64) ((k + 1) * 64))] 38)).grown hgr (fun e => HS2.out.ws' e.symm))
        have OL9 := Lib.hid ((HS2.out.sl.alloc (.cells #[.int .i64 ((fn : Int) + (k : Int)), .string (pd.extract (k * 64) ((k + 1) * 64))] 38)).grown hgr (fun e => HS2.out.wg e.symm))
        have HT9 : Hid (Turn (stS s g (.slice A M.length c)) wr w9) := ((Turn.refl _ wr).alloc _).trans ((Turn.of_grown hgr).mono fun j e => .inr (.inr e))
        have HAT : Hid (∀ j, v9.ownBlock = some j → (Value.slice A M.length c).ownBlock = some j ∨ wr.heap.size ≤ j) := fun j hj => by
          rcases hat with e | e
          · left; rw [← e]; exact hj
          · right
            rw [e] at hj
            cases hj
            simp
        rw [List.length_append, List.length_singleton] at hap
        obtain ⟨A9, c9, rfl, _, _, _⟩ := own_form (V := []) hap (by simp)
        have HR9 := Lib.hid hap
        have HSN : Hid ((Value.slice A9 (M.length + 1) c9).ownBlock ≠ some s) := fun e => by
          rcases HAT.out _ e with e | e
          · exact HS2.out.ws' e
          · have := HS2.out.st.lt; omega
        clear hap hgr hat cs3 fs3 zs
        have cs3 := OS9.out.cell? 3
        have fs3 := OS9.out.frozen 3
        have zs := OS9.out.lt
        dsimp only [List.getElem?_cons_zero, List.getElem?_cons_succ] at cs3))
      go_wp2
      go_roundw
      case rel =>
        obtain ⟨h1, h2⟩ := HS2.out.turn (l' := l) (ws' := M ++ [(⟨(fn + k : Nat), pd.extract (k * 64) ((k + 1) * 64)⟩ : Wr)]) (HT9.out.setCell (p := ⟨s, 3, none⟩) (.inl rfl) (.slice A9 (M.length + 1) c9)) (OS9.out.set_ 3 (.slice A9 (M.length + 1) c9)) (OL9.out.far (p := ⟨s, 3, none⟩) (fun e => HS2.out.sg e.symm) (.slice A9 (M.length + 1) c9)) HS2.out.len (by rw [List.length_append, List.length_singleton]; exact ownsRow_setCell_other HR9.out (a := ⟨s, 3, none⟩) (fun e => HSN.out e) _) HAT.out
        exact ⟨k + 1, by omega, by go_num, ⟨g, q0, q1, _, by rw [HFK.out, ← List.append_assoc, HM.out]; exact h1⟩, HT2.out.trans h2⟩
      case measure => simp [intOf]; omega
    · obtain rfl : k = cn := by omega
      have e : fl.take k = fl := List.take_of_length_le (by have := HFN.out; omega)
      rw [e] at HS2
      clear e
      go_wp2
      go_end0
      exact ⟨rfl, ⟨g, q0, q1, wv, by rw [HX.out]; exact HS2.out⟩, HT2.out⟩
end Go.Proofs.YtagpimahicgkmaaDoor
