/- Walk: container/heap.down over alloc.numbers. -/
import Derived.Test.YtagpimahicgkmaaDoorHp
namespace Go.Proofs.YtagpimahicgkmaaDoor
open Go.RowKit

/-- The heap's row and the cell that holds its slice. -/
def HpAt (w : World) (base g r c : Nat) (l : List Nat) : Prop :=
  HpRow w base r c l ∧ w.cell? ⟨g, 1, none⟩ = some (.slice (some ⟨r, 0, none⟩) l.length c) ∧ g ≠ r
theorem HpAt.go {w w' : World} {base g r c : Nat} {l l' : List Nat} (h : HpAt w base g r c l) (hg : w.grownBy w' (some r)) (h' : HpRow w' base r c l') (hl : l'.length = l.length) : HpAt w' base g r c l' :=
  ⟨h', by rw [hl]; exact hg.cell h.2.1 (fun e => h.2.2 (by injection e)), h.2.2⟩
theorem HpAt.drewN {w : World} {base g r c : Nat} {l : List Nat} (h : HpAt w base g r c l) (q : Nat) : HpAt (w.drewN q) base g r c l := h

theorem HpRow.dr {w : World} {base r c : Nat} {l : List Nat} (h : HpRow w base r c l) (q : Nat) : HpRow (w.drewN q) base r c l := h
theorem HpAt.dr {w : World} {base g r c : Nat} {l : List Nat} (h : HpAt w base g r c l) (q : Nat) : HpAt (w.drewN q) base g r c l := h
theorem grown_of_drewN {a b : World} {r : Option Nat} {q : Nat} (h : (a.drewN q).grownBy b r) : a.grownBy b r := ⟨h.os, h.tape, h.output, h.size, h.block⟩
theorem meth_val {g : Nat} {v : Value} {nm : String} {f : FuncId} (hm : ((Tryd.prog.info? 148).bind fun i => (i.methods.find? (·.name == nm)).map fun m => (m.path, m.func)) = some (#[], some (f, false))) (w : World) (fuel : Nat) (h : w.cell? ⟨g, 1, none⟩ = some v) :
    (method (fuel + 1) 148 (.pointer (some ⟨g, 1, none⟩)) nm).run Tryd.prog w = .ok (f, v) w :=
  method_val hm Tryd.underlying148 _ _ _ (by simp [go_sem, h])

def DownPost (w : World) (base g r c : Nat) (l : List Nat) (i0 n : Nat) (e : Ending) (w' : World) : Prop :=
  ∃ b l', e = .returned (.bool b) ∧ HpAt w' base g r c l' ∧ w.grownBy w' (some r) ∧ l'.Perm l ∧ HeapFrom i0 n l' ∧ (∀ k, n ≤ k → at0 l' k = at0 l k)

set_option maxHeartbeats 1000000 in
theorem down_any (base g r c : Nat) (l : List Nat) (i0 n : Nat) (w : World) (h : HpAt w base g r c l) (hn : n ≤ l.length) (hl : l.length ≤ 1000) (hi : i0 ≤ 1000)
    (hd : HeapFrom (i0 + 1) n l) :
    Calls Tryd.prog 118 #[.iface 148 (.pointer (some ⟨g, 1, none⟩)), .int .i64 i0, .int .i64 n] w (DownPost w base g r c l i0 n) := by
  have H := Lib.hid h
  have HD := Lib.hid hd
  clear h hd
  go_enter Tryd.func118, Tryd.ntmps118
  go_wp2_with fail
  go_loopw [7] (fun iv wr => ∃ (i : Nat) (l' : List Nat), i0 ≤ i ∧ i ≤ 1000 ∧ iv = .int .i64 i ∧ HpAt wr base g r c l' ∧ w.grownBy wr (some r) ∧ l'.Perm l ∧ DownInv i0 n l' i ∧ (∀ k, n ≤ k → at0 l' k = at0 l k)) (fun iv _ => n - (intOf iv).toNat)
  case atStart => exact ⟨i0, l, Nat.le_refl _, hi, rfl, H.out, World.grownBy.refl _ _, List.Perm.refl _, down_start HD.out, fun _ _ => rfl⟩
  case round =>
    obtain ⟨i, l', hi0, hi1, rfl, hp, hgr, hperm, hinv, hrest⟩ := hrel
    have HP := Lib.hid hp
    have HG := Lib.hid hgr
    have HPE := Lib.hid hperm
    have HI := Lib.hid hinv
    have HR := Lib.hid hrest
    have hlen : l'.length = l.length := hperm.length_eq
    have hl1 : l'.length ≤ 1000 := by omega
    have hl2 : n ≤ l'.length := by omega
    have hg1 := hp.2.1
    have hm := fun W fuel => meth_val (g := g) (v := .slice (some ⟨r, 0, none⟩) l'.length c) Tryd.metLess W fuel
    have hs := fun W fuel => meth_val (g := g) (v := .slice (some ⟨r, 0, none⟩) l'.length c) Tryd.metSwap W fuel
    clear hp hgr hperm hinv hrest hlen
    by_cases h1 : 2 * i + 1 < n
    · have h1' : (2 * (i : Int) + 1 < (n : Int)) := by omega
      by_cases h2 : 2 * i + 1 + 1 < n
      · have h2' : (2 * (i : Int) + 1 + 1 < (n : Int)) := by omega
        by_cases h2l : at0 l' (2 * i + 1 + 1) < at0 l' (2 * i + 1)
        · skip
          go_wp2_with fail
          refine (nLess_at base r c l' (2 * i + 1 + 1) (2 * i + 1) _ _ _ HP.out.1 (by omega) (by omega) (by omega) (by omega) true (decide_eq_true h2l)).mono ?_
          rintro e w1 ⟨rfl, q1, rfl⟩
          by_cases h3 : at0 l' (2 * i + 1 + 1) < at0 l' i
          · go_wp2_with fail
            refine (nLess_at base r c l' (2 * i + 1 + 1) i _ _ _ (HP.out.1.dr _) (by omega) (by omega) (by omega) (by omega) true (decide_eq_true h3)).mono ?_
            rintro e w2 ⟨rfl, q2, rfl⟩
            go_wp2_with fail
            refine (nSwap_at base r c l' i (2 * i + 1 + 1) _ _ _ (HP.out.1.dr _) (by omega) (by omega) (by omega) (by omega)).mono ?_
            rintro e w3 ⟨rfl, hr3, hg3⟩
            go_wp2
            go_roundw
            case rel =>
              refine ⟨2 * i + 1 + 1, swp l' i (2 * i + 1 + 1), by omega, by omega, by go_num, HP.out.go (grown_of_drewN hg3) hr3 (swp_length _ _ _), grown_trans HG.out (grown_of_drewN hg3), (swp_perm (by omega) (by omega)).trans HPE.out, ?_, fun k hk => ?_⟩
              · refine down_step HI.out (by omega) hi0 (by omega) (by omega) (by omega) h3 (fun k k0 kn kp => ?_)
                rcases (show k = 2 * i + 1 ∨ k = 2 * i + 1 + 1 by omega) with rfl | rfl <;> omega
              · rw [at0_swp (by omega) (by omega), if_neg (by omega), if_neg (by omega)]; exact HR.out k hk
            case measure => simp [intOf]; omega
          · go_wp2_with fail
            refine (nLess_at base r c l' (2 * i + 1 + 1) i _ _ _ (HP.out.1.dr _) (by omega) (by omega) (by omega) (by omega) false (decide_eq_false h3)).mono ?_
            rintro e w2 ⟨rfl, q2, rfl⟩
            go_wp2
            go_ret
            refine ⟨_, l', rfl, HP.out.dr _, grown_drewN HG.out _, HPE.out, down_end HI.out (fun k k0 kn kp => ?_), HR.out⟩
            rcases (show k = 2 * i + 1 ∨ k = 2 * i + 1 + 1 by omega) with rfl | rfl <;> omega
        · skip
          go_wp2_with fail
          refine (nLess_at base r c l' (2 * i + 1 + 1) (2 * i + 1) _ _ _ HP.out.1 (by omega) (by omega) (by omega) (by omega) false (decide_eq_false h2l)).mono ?_
          rintro e w1 ⟨rfl, q1, rfl⟩
          by_cases h3 : at0 l' (2 * i + 1) < at0 l' i
          · go_wp2_with fail
            refine (nLess_at base r c l' (2 * i + 1) i _ _ _ (HP.out.1.dr _) (by omega) (by omega) (by omega) (by omega) true (decide_eq_true h3)).mono ?_
            rintro e w2 ⟨rfl, q2, rfl⟩
            go_wp2_with fail
            refine (nSwap_at base r c l' i (2 * i + 1) _ _ _ (HP.out.1.dr _) (by omega) (by omega) (by omega) (by omega)).mono ?_
            rintro e w3 ⟨rfl, hr3, hg3⟩
            go_wp2
            go_roundw
            case rel =>
              refine ⟨2 * i + 1, swp l' i (2 * i + 1), by omega, by omega, by go_num, HP.out.go (grown_of_drewN hg3) hr3 (swp_length _ _ _), grown_trans HG.out (grown_of_drewN hg3), (swp_perm (by omega) (by omega)).trans HPE.out, ?_, fun k hk => ?_⟩
              · refine down_step HI.out (by omega) hi0 (by omega) (by omega) (by omega) h3 (fun k k0 kn kp => ?_)
                rcases (show k = 2 * i + 1 ∨ k = 2 * i + 1 + 1 by omega) with rfl | rfl <;> omega
              · rw [at0_swp (by omega) (by omega), if_neg (by omega), if_neg (by omega)]; exact HR.out k hk
            case measure => simp [intOf]; omega
          · go_wp2_with fail
            refine (nLess_at base r c l' (2 * i + 1) i _ _ _ (HP.out.1.dr _) (by omega) (by omega) (by omega) (by omega) false (decide_eq_false h3)).mono ?_
            rintro e w2 ⟨rfl, q2, rfl⟩
            go_wp2
            go_ret
            refine ⟨_, l', rfl, HP.out.dr _, grown_drewN HG.out _, HPE.out, down_end HI.out (fun k k0 kn kp => ?_), HR.out⟩
            rcases (show k = 2 * i + 1 ∨ k = 2 * i + 1 + 1 by omega) with rfl | rfl <;> omega
      · have h2' : ¬ (2 * (i : Int) + 1 + 1 < (n : Int)) := by omega
        by_cases h3 : at0 l' (2 * i + 1) < at0 l' i
        · go_wp2_with fail
          refine (nLess_at base r c l' (2 * i + 1) i _ _ _ HP.out.1 (by omega) (by omega) (by omega) (by omega) true (decide_eq_true h3)).mono ?_
          rintro e w2 ⟨rfl, q2, rfl⟩
          go_wp2_with fail
          refine (nSwap_at base r c l' i (2 * i + 1) _ _ _ (HP.out.1.dr _) (by omega) (by omega) (by omega) (by omega)).mono ?_
          rintro e w3 ⟨rfl, hr3, hg3⟩
          go_wp2
          go_roundw
          case rel =>
            refine ⟨2 * i + 1, swp l' i (2 * i + 1), by omega, by omega, by go_num, HP.out.go (grown_of_drewN hg3) hr3 (swp_length _ _ _), grown_trans HG.out (grown_of_drewN hg3), (swp_perm (by omega) (by omega)).trans HPE.out, ?_, fun k hk => ?_⟩
            · refine down_step HI.out (by omega) hi0 (by omega) (by omega) (by omega) h3 (fun k k0 kn kp => ?_)
              rcases (show k = 2 * i + 1 by omega) with rfl; omega
            · rw [at0_swp (by omega) (by omega), if_neg (by omega), if_neg (by omega)]; exact HR.out k hk
          case measure => simp [intOf]; omega
        · go_wp2_with fail
          refine (nLess_at base r c l' (2 * i + 1) i _ _ _ HP.out.1 (by omega) (by omega) (by omega) (by omega) false (decide_eq_false h3)).mono ?_
          rintro e w2 ⟨rfl, q2, rfl⟩
          go_wp2
          go_ret
          refine ⟨_, l', rfl, HP.out.dr _, grown_drewN HG.out _, HPE.out, down_end HI.out (fun k k0 kn kp => ?_), HR.out⟩
          rcases (show k = 2 * i + 1 by omega) with rfl; omega
    · have h1' : ¬ (2 * (i : Int) + 1 < (n : Int)) := by omega
      go_wp2
      go_ret
      have HE := down_end HI.out (fun k k0 kn kp => by omega)
      exact ⟨_, l', rfl, HP.out, HG.out, HPE.out, HE, HR.out⟩
end Go.Proofs.YtagpimahicgkmaaDoor
