/- Walk: index.rightBox. -/
import Derived.Test.YtjinnkbnllnllaaIxName
namespace Go.Proofs.Ytjinnkbnllnllaa
open Go.RowKit

/-- A number of 64 bits. -/
def I64 (n : Int) : Prop := -9223372036854775808 ≤ n ∧ n ≤ 9223372036854775807
def MlOk (m : Ml) : Prop := I64 m.uid ∧ I64 m.flags ∧ I64 m.obj ∧ I64 m.size
def BxOk (b : Bx) : Prop := b.name.size ≤ maxLen ∧ I64 b.val ∧ I64 b.next ∧ ∀ m ∈ b.mails, MlOk m
def IxOk (x : Ix) : Prop := I64 x.given ∧ (∀ b ∈ x.boxes, BxOk b) ∧ ∀ s ∈ x.subs, s.size ≤ maxLen

theorem Own.four {w : World} {g : Nat} {t : TypeId} {a b c d : Value} (h : Own w g t [a, b, c, d]) : w.cell? ⟨g, 0, none⟩ = some a ∧ w.cell? ⟨g, 1, none⟩ = some b ∧ w.cell? ⟨g, 2, none⟩ = some c ∧ w.cell? ⟨g, 3, none⟩ = some d :=
  ⟨h.cell? 0, h.cell? 1, h.cell? 2, h.cell? 3⟩

set_option maxRecDepth 100000 in
set_option maxHeartbeats 1000000 in
theorem box_any (V : List Nat) (b : Bx) (mv : Value) (w : World) (h : MlsAt V w mv b.mails) (hok : BxOk b) :
    Calls Try.prog 58 #[.agg #[.string b.name, .int .i64 b.val, .int .i64 b.next, mv]] w fun e w' => e = .returned (.bool (boxB b)) ∧ Kept w w' := by
  obtain ⟨name, val, next, mails⟩ := b
  obtain ⟨ho1, ⟨ho2, ho3⟩, ⟨ho4, ho5⟩, ho6⟩ := hok
  simp only at *
  obtain ⟨A, c, rfl, hl, hm, hr⟩ := h
  unfold maxLen at hm
  have HR := Lib.hid hr
  have H6 := Lib.hid ho6
  clear hr ho6
  obtain ⟨p1, hp1⟩ : ∃ p, nameB name = p := ⟨_, rfl⟩
  obtain ⟨p2, hp2⟩ : ∃ p, posB val = p := ⟨_, rfl⟩
  obtain ⟨p3, hp3⟩ : ∃ p, posB next = p := ⟨_, rfl⟩
  have P1 := Lib.hid hp1
  have P2 := Lib.hid hp2
  have P3 := Lib.hid hp3
  have HE : Hid (boxB ⟨name, val, next, mails⟩ = (p1 && p2 && p3 && decide (mails.length ≤ 30) && mailsB next 0 mails)) := by show _ = _; simp only [boxB, hp1, hp2, hp3]
  clear hp1 hp2 hp3
  have ENTER := trivial
  cases p1 with
  | false =>
    go_enter Try.func58, Try.ntmps58
    go_wp2_with fail
    refine (name_any _ _ ho1).mono ?_
    rw [P1.out]
    rintro e w1 ⟨rfl, rfl⟩
    go_wp2
    go_ret
    exact ⟨ret_bool HE.out.symm, (Kept.refl w).alloc _⟩
  | true =>
    cases p2 with
    | false =>
      go_enter Try.func58, Try.ntmps58
      go_wp2_with fail
      refine (name_any _ _ ho1).mono ?_
      rw [P1.out]
      rintro e w1 ⟨rfl, rfl⟩
      go_wp2_with fail
      refine (pos_any _ _ ho3 ho2).mono ?_
      rw [P2.out]
      rintro e w1 ⟨rfl, rfl⟩
      go_wp2
      go_ret
      exact ⟨ret_bool HE.out.symm, (Kept.refl w).alloc _⟩
    | true =>
      cases p3 with
      | false =>
        go_enter Try.func58, Try.ntmps58
        go_wp2_with fail
        refine (name_any _ _ ho1).mono ?_
        rw [P1.out]
        rintro e w1 ⟨rfl, rfl⟩
        go_wp2_with fail
        refine (pos_any _ _ ho3 ho2).mono ?_
        rw [P2.out]
        rintro e w1 ⟨rfl, rfl⟩
        go_wp2_with fail
        refine (pos_any _ _ ho5 ho4).mono ?_
        rw [P3.out]
        rintro e w1 ⟨rfl, rfl⟩
        go_wp2
        go_ret
        exact ⟨ret_bool HE.out.symm, (Kept.refl w).alloc _⟩
      | true =>
        by_cases hlen : mails.length ≤ 30
        · have HE2 : Hid (boxB ⟨name, val, next, mails⟩ = mailsB next 0 mails) := by show _ = _; rw [HE.out]; simp [hlen]
          go_enter Try.func58, Try.ntmps58
          go_wp2_with fail
          refine (name_any _ _ ho1).mono ?_
          rw [P1.out]
          rintro e w1 ⟨rfl, rfl⟩
          go_wp2_with fail
          refine (pos_any _ _ ho3 ho2).mono ?_
          rw [P2.out]
          rintro e w1 ⟨rfl, rfl⟩
          go_wp2_with fail
          refine (pos_any _ _ ho5 ho4).mono ?_
          rw [P3.out]
          rintro e w1 ⟨rfl, rfl⟩
          go_wp2_with fail
          go_loopw [3, 31] (fun lv iv wr => ∃ (k : Nat) (z : Int), k ≤ mails.length ∧ iv = .int .i64 k ∧ lv = .int .i64 z ∧ Hid (mailsB next 0 mails = mailsB next z (mails.drop k)) ∧ Own wr w.heap.size 40 [.string name, .int .i64 val, .int .i64 next, .slice A mails.length c] ∧ Kept w wr) (fun _ iv _ => mails.length - (intOf iv).toNat)
          case atStart => exact ⟨0, 0, Nat.zero_le _, rfl, rfl, rfl, Own.new w _ [_, _, _, _], (Kept.refl w).alloc _⟩
          case round =>
            obtain ⟨k, z, hk, rfl, rfl, HM, ho, hkw⟩ := hrel
            have HO := Lib.hid ho
            obtain ⟨q1, q2, q3, q4⟩ := ho.four
            have hz := ho.lt
            by_cases hlt : k < mails.length
            · obtain ⟨b, o, rfl, hb, _, hc⟩ := HR.out.kept hkw (by rw [mls_length]; omega)
              obtain ⟨c1, c2, c3, c4⟩ := mls_at hlt
              have g1 : wr.cell? ⟨b, o + k * 4, none⟩ = _ := hc _ _ c1
              have g2 : wr.cell? ⟨b, o + k * 4 + 1, none⟩ = _ := hc _ _ c2
              have g3 : wr.cell? ⟨b, o + k * 4 + 2, none⟩ = _ := hc _ _ c3
              have g4 : wr.cell? ⟨b, o + k * 4 + 3, none⟩ = _ := hc _ _ c4
              have HD : Hid (mailsB next z (mails.drop k) = (decide (z < mails[k].uid) && decide (mails[k].uid < next) && mailB mails[k].obj mails[k].size mails[k].flags && mailsB next mails[k].uid (mails.drop (k + 1)))) := by
                show _ = _; rw [List.drop_eq_getElem_cons hlt]; rfl
              obtain ⟨_, _, ⟨hb1, hb2⟩, _⟩ := H6.out mails[k] (List.getElem_mem hlt)
              generalize mails[k] = m at *
              obtain ⟨uid, flags, obj, size⟩ := m
              simp only at *
              clear hc c1 c2 c3 c4 ho
              by_cases e1 : z < uid
              · by_cases e2 : uid < next
                · obtain ⟨p4, hp4⟩ : ∃ p, mailB obj size flags = p := ⟨_, rfl⟩
                  have P4 := Lib.hid hp4
                  rw [hp4] at HD
                  clear hp4
                  go_wp2_with fail
                  refine (mail_any _ _ _ _ hb2 hb1).mono ?_
                  rw [P4.out]
                  rintro e w1 ⟨rfl, rfl⟩
                  cases p4 with
                  | true =>
                    go_wp2
                    go_roundw
                    case rel => exact ⟨k + 1, uid, by omega, by go_num, rfl, by show _ = _; rw [HM.out, HD.out]; simp [e1, e2], HO.out.alloc _, hkw.alloc _⟩
                    case measure => simp [intOf]; omega
                  | false =>
                    go_wp2
                    go_ret
                    exact ⟨ret_bool (by rw [HE2.out, HM.out, HD.out]; simp), hkw.alloc _⟩
                · have e2' : next ≤ uid := by omega
                  go_wp2
                  go_ret
                  exact ⟨ret_bool (by rw [HE2.out, HM.out, HD.out, decide_eq_false (show ¬ uid < next by omega)]; simp), hkw.alloc _⟩
              · have e1' : uid ≤ z := by omega
                go_wp2
                go_ret
                exact ⟨ret_bool (by rw [HE2.out, HM.out, HD.out, decide_eq_false (show ¬ z < uid by omega)]; simp), hkw.alloc _⟩
            · go_wp2
              go_ret
              exact ⟨ret_bool (by rw [HE2.out, HM.out, List.drop_of_length_le (by omega)]; rfl), hkw⟩
        · have hlen' : 30 < mails.length := by omega
          have HE2 : Hid (boxB ⟨name, val, next, mails⟩ = false) := by show _ = _; rw [HE.out]; simp [hlen]
          go_enter Try.func58, Try.ntmps58
          go_wp2_with fail
          refine (name_any _ _ ho1).mono ?_
          rw [P1.out]
          rintro e w1 ⟨rfl, rfl⟩
          go_wp2_with fail
          refine (pos_any _ _ ho3 ho2).mono ?_
          rw [P2.out]
          rintro e w1 ⟨rfl, rfl⟩
          go_wp2_with fail
          refine (pos_any _ _ ho5 ho4).mono ?_
          rw [P3.out]
          rintro e w1 ⟨rfl, rfl⟩
          go_wp2
          go_ret
          exact ⟨ret_bool HE2.out.symm, (Kept.refl w).alloc _⟩
end Go.Proofs.Ytjinnkbnllnllaa
