/- Walks: container/heap.Init, up over alloc.numbers. -/
import Derived.Test.YtbkipbkkdcikcaaHpDown
namespace Go.Proofs.Ytbkipbkkdcikcaa
open Go.RowKit

theorem heap_whole {n : Nat} {l : List Nat} {i : Nat} (h : n / 2 ≤ i) : HeapFrom i n l := fun k h0 hk h1 => by omega

set_option maxHeartbeats 1000000 in
theorem hinit_any (base g r c : Nat) (l : List Nat) (w : World) (h : HpAt w base g r c l) (hl : l.length ≤ 1000) :
    Calls Try.prog 18 #[.iface 43 (.pointer (some ⟨g, 1, none⟩))] w fun e w' => ∃ l', e = .returned (.tuple #[]) ∧ HpAt w' base g r c l' ∧ w.grownBy w' (some r) ∧ l'.Perm l ∧ HeapFrom 0 l.length l' := by
  have H := Lib.hid h
  have hg1 := h.2.1
  have hm := fun W fuel => meth_val (g := g) (v := .slice (some ⟨r, 0, none⟩) l.length c) Try.metLen W fuel
  clear h
  generalize hn : l.length = n at *
  have HN := Lib.hid hn
  clear hn
  go_enter Try.func18, Try.ntmps18
  go_wp2_with fail
  refine (nLen_any _ _ _ _ (by unfold maxLen; omega)).mono ?_
  rintro e w1 ⟨rfl, rfl⟩
  go_wp2_with fail
  go_loopw [3] (fun iv wr => ∃ (k : Nat) (l' : List Nat), k ≤ n / 2 ∧ iv = .int .i64 ((k : Int) - 1) ∧ HpAt wr base g r c l' ∧ w.grownBy wr (some r) ∧ l'.Perm l ∧ HeapFrom k n l') (fun iv _ => (intOf iv + 1).toNat)
  case atStart => exact ⟨n / 2, l, Nat.le_refl _, by go_num, H.out, World.grownBy.refl _ _, List.Perm.refl _, heap_whole (Nat.le_refl _)⟩
  case round =>
    obtain ⟨k, l', hk, rfl, hp, hgr, hperm, hinv⟩ := hrel
    have HP := Lib.hid hp
    have HG := Lib.hid hgr
    have HPE := Lib.hid hperm
    have HI := Lib.hid hinv
    have hlen : l'.length = n := hperm.length_eq.trans HN.out
    have HL := Lib.hid hlen
    clear hp hgr hperm hinv hlen hm hg1
    rcases k with _ | k
    · go_wp2
      go_end0
      exact ⟨l', rfl, HP.out, HG.out, HPE.out, HI.out⟩
    · have e1 : ((k + 1 : Nat) : Int) - 1 = k := by omega
      rw [e1]
      clear e1
      go_wp2_with fail
      refine (down_any base g r c l' k n _ HP.out (by rw [HL.out]; exact Nat.le_refl _) (by rw [HL.out]; exact hl) (by omega) HI.out).mono ?_
      rintro e w2 ⟨b, l2, rfl, hp2, hg2, hpe2, hi2, _⟩
      go_wp2
      go_roundw
      case rel => exact ⟨k, l2, by omega, by go_num, hp2, grown_trans HG.out hg2, hpe2.trans HPE.out, hi2⟩
      case measure => simp [intOf]
set_option maxHeartbeats 1000000 in
theorem up_any (base g r c : Nat) (l : List Nat) (j : Nat) (w : World) (h : HpAt w base g r c l) (hl : l.length ≤ 1000) (hj : j < l.length) (hd : UpInv l.length l j) :
    Calls Try.prog 24 #[.iface 43 (.pointer (some ⟨g, 1, none⟩)), .int .i64 j] w fun e w' => ∃ l', e = .returned (.tuple #[]) ∧ HpAt w' base g r c l' ∧ w.grownBy w' (some r) ∧ l'.Perm l ∧ HeapFrom 0 l.length l' := by
  have H := Lib.hid h
  have HD := Lib.hid hd
  clear h hd
  generalize hn : l.length = n at *
  have HN := Lib.hid hn
  clear hn
  go_enter Try.func24, Try.ntmps24
  go_wp2_with fail
  go_loopw [1] (fun jv wr => ∃ (k : Nat) (l' : List Nat), k < n ∧ jv = .int .i64 k ∧ HpAt wr base g r c l' ∧ w.grownBy wr (some r) ∧ l'.Perm l ∧ UpInv n l' k) (fun jv _ => (intOf jv).toNat)
  case atStart => exact ⟨j, l, hj, rfl, H.out, World.grownBy.refl _ _, List.Perm.refl _, HD.out⟩
  case round =>
    obtain ⟨k, l', hk, rfl, hp, hgr, hperm, hinv⟩ := hrel
    have HP := Lib.hid hp
    have HG := Lib.hid hgr
    have HPE := Lib.hid hperm
    have HI := Lib.hid hinv
    have hlen : l'.length = n := hperm.length_eq.trans HN.out
    have HL := Lib.hid hlen
    have hln : n ≤ l'.length := by omega
    have hg1 := hp.2.1
    have hm := fun W fuel => meth_val (g := g) (v := .slice (some ⟨r, 0, none⟩) l'.length c) Try.metLess W fuel
    have hs := fun W fuel => meth_val (g := g) (v := .slice (some ⟨r, 0, none⟩) l'.length c) Try.metSwap W fuel
    clear hp hgr hperm hinv hlen
    rcases Nat.eq_zero_or_pos k with h0 | h0
    · subst h0
      have HE := up_end HI.out (.inl rfl)
      go_wp2
      go_end0
      exact ⟨l', rfl, HP.out, HG.out, HPE.out, HE⟩
    · obtain ⟨p, hp⟩ : ∃ p, p = (k - 1) / 2 := ⟨_, rfl⟩
      have ep : ((k : Int) - 1) / 2 = (p : Int) := by omega
      have ne : ((p : Int) == (k : Int)) = false := beq_f (by omega)
      have hpk : p < k := by omega
      have HPP := Lib.hid hp
      clear hp
      by_cases h3 : at0 l' k < at0 l' p
      · go_wp2_with fail
        refine (nLess_at base r c l' k p _ _ _ HP.out.1 (by omega) (by omega) (by omega) (by omega) true (decide_eq_true h3)).mono ?_
        rintro e w2 ⟨rfl, q2, rfl⟩
        go_wp2_with fail
        refine (nSwap_at base r c l' p k _ _ _ (HP.out.1.dr _) (by omega) (by omega) (by omega) (by omega)).mono ?_
        rintro e w3 ⟨rfl, hr3, hg3⟩
        go_wp2
        go_roundw
        case rel => exact ⟨p, swp l' p k, by omega, by go_num, HP.out.go (grown_of_drewN hg3) hr3 (swp_length _ _ _), grown_trans HG.out (grown_of_drewN hg3), (swp_perm (by omega) (by omega)).trans HPE.out, up_step HI.out hln hk HPP.out.symm h0 h3⟩
        case measure => simp [intOf]; omega
      · have HE := up_end HI.out (.inr (by rw [← HPP.out]; omega))
        go_wp2_with fail
        refine (nLess_at base r c l' k p _ _ _ HP.out.1 (by omega) (by omega) (by omega) (by omega) false (decide_eq_false h3)).mono ?_
        rintro e w2 ⟨rfl, q2, rfl⟩
        go_wp2
        go_end0
        exact ⟨l', rfl, HP.out.dr _, grown_drewN HG.out _, HPE.out, HE⟩
end Go.Proofs.Ytbkipbkkdcikcaa
