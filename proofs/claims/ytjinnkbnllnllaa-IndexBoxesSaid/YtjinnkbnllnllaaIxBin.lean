/- Walk: slices.BinarySearch over strings; the order of texts. -/
import Derived.Test.YtjinnkbnllnllaaIxInsS
import Derived.Test.YtjinnkbnllnllaaIxExpS
namespace Go.Proofs.Ytjinnkbnllnllaa
open Go.RowKit

theorem bl_trans : ∀ (a b c : List UInt8), Op.bytesLess a b = true → Op.bytesLess b c = true → Op.bytesLess a c = true
  | a, [], _, h, _ => by cases a <;> simp [Op.bytesLess] at h
  | _, _ :: _, [], _, h => by simp [Op.bytesLess] at h
  | [], _ :: _, _ :: _, _, _ => by simp [Op.bytesLess]
  | x :: a, y :: b, z :: c, h, k => by
    simp only [Op.bytesLess, Bool.or_eq_true, Bool.and_eq_true, decide_eq_true_eq, beq_iff_eq] at h k ⊢
    rcases h with h | ⟨rfl, h⟩
    · rcases k with k | ⟨rfl, k⟩
      · exact .inl (UInt8.lt_trans h k)
      · exact .inl h
    · rcases k with k | ⟨rfl, k⟩
      · exact .inl k
      · exact .inr ⟨rfl, bl_trans a b c h k⟩
theorem bl_tri : ∀ (a b : List UInt8), Op.bytesLess a b = false → a ≠ b → Op.bytesLess b a = true
  | [], [], _, h => absurd rfl h
  | [], _ :: _, h, _ => by simp [Op.bytesLess] at h
  | _ :: _, [], _, _ => by simp [Op.bytesLess]
  | x :: a, y :: b, h, hne => by
    simp only [Op.bytesLess, Bool.or_eq_false_iff, Bool.or_eq_true, Bool.and_eq_true, decide_eq_true_eq, decide_eq_false_iff_not, beq_iff_eq] at h ⊢
    by_cases e : x = y
    · subst e
      have h2 : Op.bytesLess a b = false := by simpa using h.2
      exact .inr ⟨rfl, bl_tri a b h2 (fun e => hne (by rw [e]))⟩
    · left
      have h1 := h.1
      rw [UInt8.lt_iff_toNat_lt] at h1 ⊢
      have h3 : x.toNat ≠ y.toNat := fun h => e (UInt8.toNat_inj.1 h)
      omega
theorem bl_irrefl : ∀ (a : List UInt8), Op.bytesLess a a = false
  | [] => by simp [Op.bytesLess]
  | x :: a => by simp [Op.bytesLess, bl_irrefl a]

def lessB (a b : ByteArray) : Bool := Op.bytesLess a.toList b.toList
def strAt (l : List ByteArray) (i : Nat) : ByteArray := l.getD i .empty
/-- The place of a text among texts that rise. -/
def posS (l : List ByteArray) (nm : ByteArray) : Nat := match findTo (fun i => !lessB (strAt l i) nm) l.length with | some k => k | none => l.length
def thereS (l : List ByteArray) (nm : ByteArray) : Bool := decide (posS l nm < l.length) && nmEq (strAt l (posS l nm)) nm
theorem posS_of {l : List ByteArray} {nm : ByteArray} {p : Nat} (hp : p ≤ l.length) (h1 : ∀ j, j < p → lessB (strAt l j) nm = true) (h2 : p < l.length → lessB (strAt l p) nm = false) : posS l nm = p := by
  unfold posS
  by_cases h : p < l.length
  · rw [findTo_some (k := p) (by simp [h2 h]) (fun j hj => by simp [h1 j hj]) h]
  · rw [findTo_none (fun j hj => by simp [h1 j (by omega)])]
    simp only
    omega
theorem posS_spec (l : List ByteArray) (nm : ByteArray) : posS l nm ≤ l.length ∧ (∀ j, j < posS l nm → lessB (strAt l j) nm = true) ∧ (posS l nm < l.length → lessB (strAt l (posS l nm)) nm = false) := by
  unfold posS
  cases hf : findTo (fun i => !lessB (strAt l i) nm) l.length with
  | none =>
    have := findTo_none_inv hf
    exact ⟨Nat.le_refl _, fun j hj => by simpa using this j hj, fun h => absurd h (Nat.lt_irrefl _)⟩
  | some k =>
    obtain ⟨h1, h2, h3⟩ := findTo_inv hf
    exact ⟨Nat.le_of_lt h1, fun j hj => by simpa using h3 j hj, fun _ => by simpa using h2⟩
/-- Those below a text come first. -/
def Mono (l : List ByteArray) (nm : ByteArray) : Prop := ∀ j k, j < k → k < l.length → lessB (strAt l k) nm = true → lessB (strAt l j) nm = true

set_option maxHeartbeats 400000 in
theorem nanS_any (s : ByteArray) (w : World) : Calls Try.prog 63 #[.string s] w fun e w' => e = .returned (.bool false) ∧ w' = w := by
  go_enter Try.func63, Try.ntmps63
  go_wp2
  go_ret
  exact ⟨by simp, rfl⟩
set_option maxHeartbeats 400000 in
theorem nanC_any (s : ByteArray) (w : World) : Calls Try.prog 68 #[.string s] w fun e w' => e = .returned (.bool false) ∧ w' = w := by
  go_enter Try.func68, Try.ntmps68
  go_wp2
  go_ret
  exact ⟨by simp, rfl⟩
set_option maxHeartbeats 400000 in
theorem lessS_any (a b : ByteArray) (w : World) : Calls Try.prog 62 #[.string a, .string b] w fun e w' => e = .returned (.bool (lessB a b)) ∧ w' = w := by
  go_enter Try.func62, Try.ntmps62
  go_wp2_with fail
  refine (nanC_any _ _).mono ?_
  rintro e w1 ⟨rfl, rfl⟩
  go_wp2
  go_ret
  exact ⟨rfl, rfl⟩

set_option maxRecDepth 100000 in
set_option maxHeartbeats 2000000 in
theorem bin_any (l : List ByteArray) (A : Option Addr) (c : Nat) (nm : ByteArray) (w : World) (hr : Row [] w A (strs l)) (hl : l.length ≤ 1000) (hmono : Mono l nm) :
    Calls Try.prog 48 #[.slice A l.length c, .string nm] w fun e w' => e = .returned (.tuple #[.int .i64 (posS l nm), .bool (thereS l nm)]) ∧ Kept w w' := by
  have HR := Lib.hid hr
  have HMO := Lib.hid hmono
  clear hr hmono
  generalize hn : l.length = n at *
  have HN := Lib.hid hn
  clear hn
  have HCL : Hid (∀ W, Kept w W → ∀ k, k < n → ∃ b o, A = some ⟨b, o, none⟩ ∧ W.cell? ⟨b, o + k, none⟩ = some (.string (strAt l k))) := fun W hW k hk => by
    obtain ⟨b, o, e, _, _, hc⟩ := HR.out.kept hW (by rw [strs_length, HN.out]; omega)
    have hk' : k < l.length := by rw [HN.out]; exact hk
    refine ⟨b, o, e, ?_⟩
    rw [show strAt l k = l[k] by simp [strAt, hk']]
    exact hc k _ (strs_at hk')
  go_enter Try.func48, Try.ntmps48
  go_wp2
  go_loopw [7, 8] (fun s7 s8 wr => ∃ lo hi : Nat, s7 = .int .i64 lo ∧ s8 = .int .i64 hi ∧ lo ≤ hi ∧ hi ≤ n ∧ Hid (∀ j, j < lo → lessB (strAt l j) nm = true) ∧ Hid (∀ j, hi ≤ j → j < n → lessB (strAt l j) nm = false) ∧ Kept w wr) (fun s7 s8 _ => (intOf s8).toNat - (intOf s7).toNat)
  case atStart => exact ⟨0, n, rfl, rfl, Nat.zero_le _, Nat.le_refl _, (fun j hj => by omega), (fun j h1 h2 => by omega), Kept.refl _⟩
  case round =>
    obtain ⟨lo, hi, rfl, rfl, hlh, hhn, HLO, HHI, hkw⟩ := hrel
    by_cases hlt : lo < hi
    · obtain ⟨b, o, rfl, cm⟩ := HCL.out _ hkw ((lo + hi) / 2) (by omega)
      obtain ⟨q, hq⟩ : ∃ q, lessB (strAt l ((lo + hi) / 2)) nm = q := ⟨_, rfl⟩
      have HQ := Lib.hid hq
      clear hq
      obtain ⟨y, hy⟩ : ∃ y, strAt l ((lo + hi) / 2) = y := ⟨_, rfl⟩
      rw [hy] at cm HQ
      have HY := Lib.hid hy
      clear hy
      go_wp2_with fail
      refine (lessS_any _ _ _).mono ?_
      rintro e w1 ⟨rfl, rfl⟩
      rw [HQ.out]
      cases q with
      | true =>
        go_wp2
        go_roundw
        case rel =>
          refine ⟨(lo + hi) / 2 + 1, hi, ?_, rfl, by omega, hhn, fun j hj => ?_, HHI, hkw⟩
          · first | rfl | (congr 1; omega)
          · by_cases e : j = (lo + hi) / 2
            · subst e; rw [HY.out]; exact HQ.out
            · exact HMO.out j ((lo + hi) / 2) (by omega) (by rw [HN.out]; omega) (by rw [HY.out]; exact HQ.out)
        case measure => simp [intOf]; omega
      | false =>
        go_wp2
        go_roundw
        case rel =>
          refine ⟨lo, (lo + hi) / 2, rfl, ?_, by omega, by omega, HLO, fun j h1 h2 => ?_, hkw⟩
          · first | rfl | (congr 1; omega)
          · by_cases e : j = (lo + hi) / 2
            · subst e; rw [HY.out]; exact HQ.out
            · rcases Bool.eq_false_or_eq_true (lessB (strAt l j) nm) with ht | ht
              · have := HMO.out ((lo + hi) / 2) j (by omega) (by rw [HN.out]; exact h2) ht
                rw [HY.out, HQ.out] at this
                cases this
              · exact ht
        case measure => simp [intOf]; omega
    · obtain rfl : lo = hi := by omega
      have HP : Hid (posS l nm = lo) := posS_of (by rw [HN.out]; exact hhn) HLO.out (fun h => HHI.out lo (Nat.le_refl _) (by rw [← HN.out]; exact h))
      by_cases hln : lo < n
      · obtain ⟨b, o, rfl, cm⟩ := HCL.out _ hkw lo hln
        have HT : Hid (thereS l nm = ((strAt l lo).toList == nm.toList)) := by show _ = _; unfold thereS nmEq; rw [HP.out, HN.out]; simp [hln]
        generalize strAt l lo = y at *
        obtain ⟨q, hq⟩ : ∃ q, (y.toList == nm.toList) = q := ⟨_, rfl⟩
        rw [hq] at HT
        cases q with
        | true =>
          go_wp2
          go_ret2
          exact ⟨by rw [HP.out, HT.out]; rfl, hkw⟩
        | false =>
          go_wp2_with fail
          refine (nanS_any _ _).mono ?_
          rintro e w1 ⟨rfl, rfl⟩
          go_wp2
          go_ret2
          exact ⟨by rw [HP.out, HT.out]; rfl, hkw⟩
      · have HT : Hid (thereS l nm = false) := by show _ = _; unfold thereS; rw [HP.out, HN.out]; simp [hln]
        go_wp2
        go_ret2
        exact ⟨by rw [HP.out, HT.out]; rfl, hkw⟩
end Go.Proofs.Ytjinnkbnllnllaa
