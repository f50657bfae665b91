/- Walks: slices.IndexFunc over mailboxes and over mails; index.Find, place. -/
import Derived.Test.YtjinnkbnllnllaaIxRightW
namespace Go.Proofs.Ytjinnkbnllnllaa
open Go.RowKit

/-- The first place below n of which p. -/
def findTo (p : Nat → Bool) : Nat → Option Nat
  | 0 => none
  | n + 1 => match findTo p n with | some k => some k | none => if p n then some n else none
theorem least_of {p : Nat → Bool} (j : Nat) (e : p j = true) : ∃ k, p k = true ∧ (∀ i, i < k → p i = false) ∧ k ≤ j := by
  induction j using Nat.strongRecOn with
  | _ j ih =>
    by_cases hh : ∃ i, i < j ∧ p i = true
    · obtain ⟨i, hi, hpi⟩ := hh
      obtain ⟨k, h1, h2, h3⟩ := ih i hi hpi
      exact ⟨k, h1, h2, by omega⟩
    · refine ⟨j, e, fun i hi => ?_, Nat.le_refl _⟩
      rcases Bool.eq_false_or_eq_true (p i) with e' | e'
      · exact absurd ⟨i, hi, e'⟩ hh
      · exact e'
theorem findTo_none {p : Nat → Bool} : ∀ {n : Nat}, (∀ j, j < n → p j = false) → findTo p n = none
  | 0, _ => rfl
  | n + 1, h => by
    have ih := findTo_none (p := p) (n := n) (fun j hj => h j (by omega))
    simp only [findTo, ih, h n (by omega)]; rfl
theorem findTo_some {p : Nat → Bool} {k : Nat} (hp : p k = true) (h : ∀ j, j < k → p j = false) : ∀ {n : Nat}, k < n → findTo p n = some k
  | 0, hk => by omega
  | n + 1, hk => by
    by_cases e : k = n
    · subst e
      have ih := findTo_none h
      simp only [findTo, ih, hp]; rfl
    · have ih := findTo_some hp h (show k < n by omega)
      simp only [findTo, ih]
theorem findTo_none_inv {p : Nat → Bool} {n : Nat} (h : findTo p n = none) : ∀ j, j < n → p j = false := fun j hj => by
  rcases Bool.eq_false_or_eq_true (p j) with e | e
  · exfalso
    obtain ⟨k, h1, h2, h3⟩ := least_of j e
    rw [findTo_some h1 h2 (show k < n by omega)] at h
    cases h
  · exact e
theorem findTo_inv {p : Nat → Bool} {k n : Nat} (h : findTo p n = some k) : k < n ∧ p k = true ∧ ∀ j, j < k → p j = false := by
  by_cases hh : ∃ j, j < n ∧ p j = true
  · obtain ⟨j, hj, hpj⟩ := hh
    obtain ⟨i, h1, h2, h3⟩ := least_of j hpj
    rw [findTo_some h1 h2 (show i < n by omega)] at h
    cases h
    exact ⟨by omega, h1, h2⟩
  · rw [findTo_none (fun j hj => by
      rcases Bool.eq_false_or_eq_true (p j) with e | e
      · exact absurd ⟨j, hj, e⟩ hh
      · exact e)] at h
    cases h

def findP (x : Ix) (nm : ByteArray) (i : Nat) : Bool := nmEq (bxAt x i).name nm
def findX (x : Ix) (nm : ByteArray) : Option Nat := findTo (findP x nm) x.boxes.length
def ofO (o : Option Nat) : Int := match o with | some k => (k : Int) | none => -1

set_option maxRecDepth 100000 in
set_option maxHeartbeats 1000000 in
theorem ixFunc_any (x : Ix) (v : Value) (nm : ByteArray) (nb : Nat) (w : World) (h : BxsAt [] w v x.boxes) (hnb : nb < w.heap.size) (hn : w.cell? ⟨nb, 0, none⟩ = some (.string nm)) :
    Calls Try.prog 38 #[v, .func (.func 39) #[] #[.pointer (some ⟨nb, 0, none⟩)]] w fun e w' => e = .returned (.int .i64 (ofO (findX x nm))) ∧ Kept w w' := by
  obtain ⟨A, c, rfl, hc1, hc2, hbx⟩ := h.open_
  unfold maxLen at hc2
  have HBX := Lib.hid hbx
  have HNM := Lib.hid hn
  clear hbx h hn
  generalize hn : x.boxes.length = n at *
  have HN := Lib.hid hn
  clear hn
  go_enter Try.func38, Try.ntmps38
  go_wp2_with fail
  go_loopw [8] (fun iv wr => ∃ k : Nat, k ≤ n ∧ iv = .int .i64 k ∧ Hid (∀ j, j < k → findP x nm j = false) ∧ Kept w wr) (fun iv _ => n - (intOf iv).toNat)
  case atStart => exact ⟨0, Nat.zero_le _, rfl, fun j hj => by omega, Kept.refl _⟩
  case round =>
    obtain ⟨k, hk, rfl, HF, hkw⟩ := hrel
    have hz := hkw.size
    by_cases hlt : k < n
    · obtain ⟨b, o, mv, rfl, hb, _, hbc⟩ := HBX.out (by omega)
      have hk' : k < x.boxes.length := by rw [HN.out]; exact hlt
      obtain ⟨g1, g2, g3, g4, _⟩ := hbc.go hb hkw (Ext.refl _ _) k hk'
      have g5 : wr.cell? ⟨nb, 0, none⟩ = some (.string nm) := (hkw.cell (p := ⟨nb, 0, none⟩) hnb).trans HNM.out
      have hnb' : nb < wr.heap.size := Nat.lt_of_lt_of_le hnb hkw.size
      have HP : Hid (findP x nm k = (x.boxes[k].name.toList == nm.toList)) := by show _ = _; unfold findP nmEq; rw [bxAt_lt hk']
      generalize x.boxes[k] = B at *
      obtain ⟨p, hp⟩ : ∃ p, (B.name.toList == nm.toList) = p := ⟨_, rfl⟩
      rw [hp] at HP
      generalize B.name = bn at *
      generalize B.val = bv at *
      generalize B.next = bt at *
      generalize mv k = bm at *
      clear hbc
      cases p with
      | true =>
        have HR : Hid (findX x nm = some k) := by show _ = _; unfold findX; rw [HN.out]; exact findTo_some HP.out HF.out hlt
        go_wp2
        go_ret
        exact ⟨ret_int (by rw [HR.out]; rfl), hkw.alloc _⟩
      | false =>
        go_wp2
        go_roundw
        case rel =>
          refine ⟨k + 1, by omega, by go_num, fun j hj => ?_, hkw.alloc _⟩
          by_cases e : j = k
          · subst e; exact HP.out
          · exact HF.out j (by omega)
        case measure => simp [intOf]; omega
    · have HR : Hid (findX x nm = none) := by show _ = _; unfold findX; rw [HN.out]; exact findTo_none (fun j hj => HF.out j (by omega))
      go_wp2
      go_ret
      exact ⟨ret_int (by rw [HR.out]; rfl), hkw⟩

set_option maxHeartbeats 400000 in
theorem find_any (x : Ix) (v : Value) (nm : ByteArray) (w : World) (h : IxAt [] w v x) :
    Calls Try.prog 13 #[v, .string nm] w fun e w' => e = .returned (.int .i64 (ofO (findX x nm))) ∧ Kept w w' := by
  obtain ⟨b, s, rfl, hb, hs⟩ := h
  have HB := Lib.hid hb
  clear hb hs
  go_enter Try.func13, Try.ntmps13
  go_wp2_with fail
  refine (ixFunc_any x b nm (w.heap.size + 1) _ (HB.out.go (((Kept.refl w).alloc _).alloc _) (Ext.refl _ _)) (by simp) ?_).mono ?_
  · exact (Own.new1 w _ _ [_]).one.1
  rintro e w1 ⟨rfl, hk1⟩
  go_wp2
  go_ret
  exact ⟨rfl, (((Kept.refl w).alloc _).alloc _).trans hk1⟩

def ml0 : Ml := ⟨0, 0, 0, 0⟩
def mlAt (l : List Ml) (i : Nat) : Ml := l.getD i ml0
def uidP (l : List Ml) (uid : Int) (i : Nat) : Bool := (mlAt l i).uid == uid
def findM (l : List Ml) (uid : Int) : Option Nat := findTo (uidP l uid) l.length
theorem mlAt_lt {l : List Ml} {i : Nat} (h : i < l.length) : mlAt l i = l[i] := by simp [mlAt, h]

set_option maxRecDepth 100000 in
set_option maxHeartbeats 1000000 in
theorem mlFunc_any (l : List Ml) (v : Value) (uid : Int) (nb : Nat) (w : World) (h : MlsAt [] w v l) (hnb : nb < w.heap.size) (hn : w.cell? ⟨nb, 0, none⟩ = some (.int .i64 uid)) :
    Calls Try.prog 60 #[v, .func (.func 61) #[] #[.pointer (some ⟨nb, 0, none⟩)]] w fun e w' => e = .returned (.int .i64 (ofO (findM l uid))) ∧ Kept w w' := by
  obtain ⟨A, c, rfl, hc1, hc2, hr⟩ := h
  unfold maxLen at hc2
  have HR := Lib.hid hr
  have HNM := Lib.hid hn
  clear hr hn
  generalize hn : l.length = n at *
  have HN := Lib.hid hn
  clear hn
  go_enter Try.func60, Try.ntmps60
  go_wp2_with fail
  go_loopw [8] (fun iv wr => ∃ k : Nat, k ≤ n ∧ iv = .int .i64 k ∧ Hid (∀ j, j < k → uidP l uid j = false) ∧ Kept w wr) (fun iv _ => n - (intOf iv).toNat)
  case atStart => exact ⟨0, Nat.zero_le _, rfl, fun j hj => by omega, Kept.refl _⟩
  case round =>
    obtain ⟨k, hk, rfl, HF, hkw⟩ := hrel
    have hz := hkw.size
    by_cases hlt : k < n
    · obtain ⟨b, o, rfl, hb, _, hc⟩ := HR.out.kept hkw (by rw [mls_length, HN.out]; omega)
      have hk' : k < l.length := by rw [HN.out]; exact hlt
      obtain ⟨c1, c2, c3, c4⟩ := mls_at hk'
      have g1 : wr.cell? ⟨b, o + k * 4, none⟩ = _ := hc _ _ c1
      have g2 : wr.cell? ⟨b, o + k * 4 + 1, none⟩ = _ := hc _ _ c2
      have g3 : wr.cell? ⟨b, o + k * 4 + 2, none⟩ = _ := hc _ _ c3
      have g4 : wr.cell? ⟨b, o + k * 4 + 3, none⟩ = _ := hc _ _ c4
      have g5 : wr.cell? ⟨nb, 0, none⟩ = some (.int .i64 uid) := (hkw.cell (p := ⟨nb, 0, none⟩) hnb).trans HNM.out
      have hnb' : nb < wr.heap.size := Nat.lt_of_lt_of_le hnb hkw.size
      have HP : Hid (uidP l uid k = (l[k].uid == uid)) := by show _ = _; unfold uidP; rw [mlAt_lt hk']
      clear hc c1 c2 c3 c4
      generalize l[k].uid = z1 at *
      generalize l[k].flags = z2 at *
      generalize l[k].obj = z3 at *
      generalize l[k].size = z4 at *
      by_cases hq : z1 = uid
      · subst hq
        have HR : Hid (findM l z1 = some k) := by show _ = _; unfold findM; rw [HN.out]; exact findTo_some (by rw [HP.out]; simp) HF.out hlt
        go_wp2
        go_ret
        exact ⟨ret_int (by rw [HR.out]; rfl), hkw.alloc _⟩
      · have hq' := beq_f hq
        rw [hq'] at HP
        clear hq
        go_wp2
        go_roundw
        case rel =>
          refine ⟨k + 1, by omega, by go_num, fun j hj => ?_, hkw.alloc _⟩
          by_cases e : j = k
          · subst e; exact HP.out
          · exact HF.out j (by omega)
        case measure => simp [intOf]; omega
    · have HR : Hid (findM l uid = none) := by show _ = _; unfold findM; rw [HN.out]; exact findTo_none (fun j hj => HF.out j (by omega))
      go_wp2
      go_ret
      exact ⟨ret_int (by rw [HR.out]; rfl), hkw⟩

/-- The places of a mailbox and of a message in it. -/
def placeR (x : Ix) (nm : ByteArray) (uid : Int) : Int × Int × Bool :=
  match findX x nm with
  | none => (0, 0, false)
  | some a => match findM (bxAt x a).mails uid with
    | none => ((a : Int), -1, false)
    | some k => ((a : Int), (k : Int), true)
def PlacePost (x : Ix) (nm : ByteArray) (uid : Int) (w : World) (e : Ending) (w' : World) : Prop :=
  e = .returned (.tuple #[.int .i64 (placeR x nm uid).1, .int .i64 (placeR x nm uid).2.1, .bool (placeR x nm uid).2.2]) ∧ Kept w w'

set_option maxRecDepth 100000 in
set_option maxHeartbeats 1000000 in
theorem place_any (x : Ix) (v : Value) (nm : ByteArray) (uid : Int) (w : World) (h : IxAt [] w v x) :
    Calls Try.prog 36 #[v, .string nm, .int .i64 uid] w (PlacePost x nm uid w) := by
  have H := Lib.hid h
  obtain ⟨A, c, A', c', rfl, hc1, hc2, hc3, hc4, hbx, hrow⟩ := h.open_
  have HBX := Lib.hid hbx
  clear hbx hrow h
  unfold maxLen at hc2 hc4
  go_enter Try.func36, Try.ntmps36
  go_wp2_with fail
  refine (find_any x _ nm _ (H.out.go (((Kept.refl w).alloc _).alloc _) (Ext.refl _ _))).mono ?_
  rintro e w1 ⟨rfl, hk1⟩
  have O1 := Lib.hid (((Own.new w 25 [.slice A x.boxes.length c, .slice A' x.subs.length c', .int .i64 x.given]).alloc _).kept hk1)
  have O2 := Lib.hid ((Own.new1 w (.cells #[.slice A x.boxes.length c, .slice A' x.subs.length c', .int .i64 x.given] 25) 3 [.int .i64 uid]).kept hk1)
  have hkw1 := (((Kept.refl w).alloc (.cells #[.slice A x.boxes.length c, .slice A' x.subs.length c', .int .i64 x.given] 25)).alloc (.cells #[.int .i64 uid] 3)).trans hk1
  obtain ⟨q1, q2, q3, _, _, _⟩ := O1.out.three
  have hz1 := O1.out.lt
  have hz2 := O2.out.lt
  clear hk1
  cases hf : findX x nm with
  | none =>
    have HE : Hid (placeR x nm uid = (0, 0, false)) := by show _ = _; simp only [placeR, hf]
    clear hf
    simp only [ofO]
    go_wp2
    go_ret3
    exact ⟨by rw [HE.out]; rfl, hkw1⟩
  | some a =>
    obtain ⟨ha, _, _⟩ := findTo_inv hf
    obtain ⟨b, o, mv, rfl, hb, _, hbc⟩ := HBX.out (by omega)
    obtain ⟨_, _, _, g4, gm⟩ := hbc.go hb hkw1 (Ext.refl _ _) a ha
    have HGM := Lib.hid gm
    have HAT := Lib.hid (bxAt_lt ha)
    have HF := Lib.hid hf
    have a0 : (0 : Int) ≤ (a : Int) := by omega
    have a1 : (a : Int) < (x.boxes.length : Int) := by omega
    clear hbc gm hf
    simp only [ofO]
    go_wp2_with fail
    refine (mlFunc_any x.boxes[a].mails _ uid (w.heap.size + 1) _ HGM.out hz2 O2.out.one.1).mono ?_
    rintro e w2 ⟨rfl, hk2⟩
    cases hm : findM x.boxes[a].mails uid with
    | none =>
      have HE : Hid (placeR x nm uid = ((a : Int), -1, false)) := by show _ = _; simp only [placeR, HF.out, HAT.out, hm]
      clear hm
      simp only
      go_wp2
      go_ret3
      exact ⟨by rw [HE.out]; rfl, hkw1.trans hk2⟩
    | some k =>
      have HE : Hid (placeR x nm uid = ((a : Int), (k : Int), true)) := by show _ = _; simp only [placeR, HF.out, HAT.out, hm]
      have k0 : (0 : Int) ≤ (k : Int) := by omega
      clear hm
      simp only
      go_wp2
      go_ret3
      exact ⟨by rw [HE.out]; rfl, hkw1.trans hk2⟩
end Go.Proofs.Ytjinnkbnllnllaa
