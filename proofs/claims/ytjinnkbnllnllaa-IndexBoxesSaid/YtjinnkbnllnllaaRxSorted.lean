/- Walk: mailsackref15.sorted. -/
import Derived.Test.YtjinnkbnllnllaaIxRef
import Derived.Test.YtjinnkbnllnllaaIxBin
import Derived.Test.YtjinnkbnllnllaaLast
import Derived.Test.YtjinnkbnllnllaaIxCopy
import Derived.Deep.CutRange
import Derived.Deep.CutBlock
namespace Go.Proofs.Ytjinnkbnllnllaa
open Go.RowKit

def bp0 : Bp := (bx0, .slice none 0 0)
def bpAt (l : List Bp) (i : Nat) : Bp := l.getD i bp0
/-- Is a name behind another one? -/
def gtB (a b : ByteArray) : Bool := !(Op.bytesLess a.toList b.toList || a.toList == b.toList)
/-- Where a mailbox goes, from a place down. -/
def slide (l : List Bp) (nm : ByteArray) : Nat → Nat
  | 0 => 0
  | 1 => 1
  | k + 2 => if gtB (bpAt l (k + 1)).1.name nm then slide l nm (k + 1) else k + 2
def insP (l : List Bp) (p : Bp) : List Bp := l.take (slide l p.1.name l.length) ++ p :: l.drop (slide l p.1.name l.length)
/-- The first k mailboxes, sorted. -/
def sortTo (l : List Bp) : Nat → List Bp
  | 0 => []
  | k + 1 => insP (sortTo l k) (bpAt l k)
theorem slide_le (l : List Bp) (nm : ByteArray) : ∀ k, slide l nm k ≤ k
  | 0 => Nat.le_refl _
  | 1 => Nat.le_refl _
  | k + 2 => by
    unfold slide
    split
    · exact Nat.le_trans (slide_le l nm (k + 1)) (by omega)
    · exact Nat.le_refl _
theorem insP_len (l : List Bp) (p : Bp) : (insP l p).length = l.length + 1 := by
  unfold insP
  rw [List.length_append, List.length_cons, List.length_take, List.length_drop]
  have := slide_le l p.1.name l.length
  omega
theorem sortTo_len (l : List Bp) : ∀ k, (sortTo l k).length = k
  | 0 => rfl
  | k + 1 => by rw [sortTo, insP_len, sortTo_len]
theorem slide_stop {l : List Bp} {nm : ByteArray} {a : Nat} (h : a ≤ 1 ∨ gtB (bpAt l (a - 1)).1.name nm = false) : slide l nm a = a := by
  match a with
  | 0 => rfl
  | 1 => rfl
  | k + 2 =>
    rcases h with h | h
    · omega
    · unfold slide
      rw [show k + 2 - 1 = k + 1 from rfl] at h
      rw [h]; rfl
theorem slide_go {l : List Bp} {nm : ByteArray} {a : Nat} (h1 : 1 < a) (h : gtB (bpAt l (a - 1)).1.name nm = true) : slide l nm (a - 1) = slide l nm a := by
  match a with
  | 0 => omega
  | 1 => omega
  | k + 2 =>
    rw [show k + 2 - 1 = k + 1 from rfl] at h ⊢
    show _ = slide l nm (k + 2)
    rw [slide, h]; rfl
theorem bpAt_lt {l : List Bp} {i : Nat} (h : i < l.length) : bpAt l i = l[i] := by simp [bpAt, h]
theorem sort_form (l : List Bp) (hm : ∀ p ∈ l, ∃ A n c, p.2 = .slice A n c) : ∀ k, ∀ p ∈ sortTo l k, ∃ A n c, p.2 = .slice A n c
  | 0 => fun _ h => by cases h
  | k + 1 => fun p hp => by
    rw [sortTo, insP] at hp
    rcases List.mem_append.1 hp with h | h
    · exact sort_form l hm k p (List.mem_of_mem_take h)
    · rcases List.mem_cons.1 h with rfl | h
      · by_cases hk : k < l.length
        · rw [bpAt_lt hk]; exact hm _ (List.getElem_mem hk)
        · rw [show bpAt l k = bp0 by simp [bpAt, List.getD, List.getElem?_eq_none (Nat.le_of_not_lt hk)]]; exact ⟨_, _, _, rfl⟩
      · exact sort_form l hm k p (List.mem_of_mem_drop h)
theorem bxs_take (l : List Bp) (k : Nat) : bxs (l.take k) = (bxs l).take (k * 4) := by
  induction l generalizing k with
  | nil => simp [bxs]
  | cons a l ih =>
    cases k with
    | zero => simp [bxs]
    | succ k =>
      have e : bxs (a :: l) = bxc a ++ bxs l := rfl
      rw [List.take_succ_cons, e, show bxs (a :: l.take k) = bxc a ++ bxs (l.take k) from rfl, ih, List.take_append, bxc_four, show (bxc a).take ((k + 1) * 4) = bxc a from List.take_of_length_le (by rw [bxc_four]; omega), show (k + 1) * 4 - 4 = k * 4 by omega]
theorem bxs_drop (l : List Bp) (k : Nat) : bxs (l.drop k) = (bxs l).drop (k * 4) := by
  induction l generalizing k with
  | nil => simp [bxs]
  | cons a l ih =>
    cases k with
    | zero => simp
    | succ k =>
      have e : bxs (a :: l) = bxc a ++ bxs l := rfl
      rw [List.drop_succ_cons, e, ih, List.drop_append, bxc_four, show (bxc a).drop ((k + 1) * 4) = [] from List.drop_of_length_le (by rw [bxc_four]; omega), List.nil_append, show (k + 1) * 4 - 4 = k * 4 by omega]
theorem Row.take_ {V : List Nat} {w : World} {A : Option Addr} {xs : List Value} (h : Row V w A xs) (n : Nat) : Row V w A (xs.take n) := fun hx => by
  rw [List.length_take] at hx
  obtain ⟨b, o, e, hb, hv, hc⟩ := h (by omega)
  refine ⟨b, o, e, hb, hv, fun j u hu => hc j u ?_⟩
  rw [List.getElem?_take] at hu
  split at hu
  · exact hu
  · cases hu
theorem Row.drop_ {V : List Nat} {w : World} {b o : Nat} {xs : List Value} (h : Row V w (some ⟨b, o, none⟩) xs) (n : Nat) : Row V w (some ⟨b, o + n, none⟩) (xs.drop n) := fun hx => by
  rw [List.length_drop] at hx
  obtain ⟨b', o', e, hb, hv, hc⟩ := h (by omega)
  cases e
  refine ⟨b, o + n, rfl, hb, hv, fun j u hu => ?_⟩
  rw [List.getElem?_drop] at hu
  rw [Nat.add_assoc]
  exact hc _ _ hu
def SortPost (V : List Nat) (l : List Bp) (w : World) (e : Ending) (w' : World) : Prop :=
  ∃ A c, e = .returned (.slice A l.length c) ∧ l.length ≤ c ∧ c ≤ maxLen ∧ Row V w' A (bxs (sortTo l l.length)) ∧ Kept w w'

set_option maxRecDepth 100000 in
set_option maxHeartbeats 4000000 in
theorem sorted_any (V : List Nat) (l : List Bp) (A : Option Addr) (c : Nat) (w : World) (hV : Old V w) (hc1 : l.length ≤ c) (hc2 : c ≤ maxLen) (hl : l.length ≤ 100) (hrow : Row [] w A (bxs l)) (hm : ∀ p ∈ l, ∃ A n c, p.2 = .slice A n c) :
    Calls Try.prog 56 #[.slice A l.length c] w (SortPost V l w) := by
  have HROW := Lib.hid hrow
  have HOV := Lib.hid hV
  have HF := Lib.hid hm
  unfold maxLen at hc2
  clear hrow hV hm
  generalize hn : l.length = n at *
  have HN := Lib.hid hn
  clear hn
  go_enter Try.func56, Try.ntmps56
  go_wp2_with fail
  go_loopw [3, 10] (fun ov iv wq => ∃ (k : Nat) (A2 : Option Addr) (c2 : Nat), k ≤ n ∧ iv = .int .i64 k ∧ ov = .slice A2 k c2 ∧ k ≤ c2 ∧ c2 ≤ 9223372036854775807 ∧ Hid (k = 0 → A2 = none ∧ c2 = 0) ∧ Hid (Row V wq A2 (bxs (sortTo l k))) ∧ Kept w wq) (fun _ iv _ => n - (intOf iv).toNat)
  case atStart => exact ⟨0, none, 0, Nat.zero_le _, rfl, rfl, Nat.le_refl _, by omega, fun _ => ⟨rfl, rfl⟩, Row.nil _ _ _, Kept.refl _⟩
  case round =>
    obtain ⟨k, A2, c2, hk, rfl, rfl, hk2, hc22, HZ, HQ, K⟩ := hrel
    by_cases hlt : k < n
    · obtain ⟨b, o, rfl, hb, _, hcs⟩ := HROW.out (by rw [bxs_length, HN.out]; omega)
      have hk' : k < l.length := by rw [HN.out]; exact hlt
      obtain ⟨g1, g2, g3, g4⟩ := bxs_at hk'
      replace g1 := (K.cell (p := ⟨b, o + k * 4, none⟩) hb).trans (hcs _ _ g1)
      replace g2 := (K.cell (p := ⟨b, o + k * 4 + 1, none⟩) hb).trans (hcs _ _ g2)
      replace g3 := (K.cell (p := ⟨b, o + k * 4 + 2, none⟩) hb).trans (hcs _ _ g3)
      replace g4 := (K.cell (p := ⟨b, o + k * 4 + 3, none⟩) hb).trans (hcs _ _ g4)
      obtain ⟨MA, mn, mc, hmv⟩ := HF.out _ (List.getElem_mem hk')
      rw [hmv] at g4
      have HBP : Hid (bpAt l k = (⟨l[k].1.name, l[k].1.val, l[k].1.next, l[k].1.mails⟩, .slice MA mn mc)) := by show _ = _; rw [bpAt_lt hk', ← hmv]
      clear hcs hmv
      generalize l[k].1.name = bn at *
      generalize l[k].1.val = bl at *
      generalize l[k].1.next = bt at *
      generalize l[k].1.mails = bml at *
      have HSF := Lib.hid (sort_form l HF.out k)
      have HSL := Lib.hid (sortTo_len l k)
      have HST : Hid (sortTo l (k + 1) = insP (sortTo l k) (bpAt l k)) := rfl
      generalize sortTo l k = qs at *
      have k0 : (0 : Int) ≤ (k : Int) := by omega
      have k1 : (k : Int) < (n : Int) := by omega
      go_upto_block 2 with fail
      clear g1 g2 g3 g4
      have OB := Lib.hid (Own.new wr 43 [.string bn, .int .i64 bl, .int .i64 bt, .slice MA mn mc])
      replace HQ := Lib.hid (HQ.out.go ((Kept.refl wr).alloc (.cells #[.string bn, .int .i64 bl, .int .i64 bt, .slice MA mn mc] 43)) (Ext.refl _ _))
      replace K := K.alloc (.cells #[.string bn, .int .i64 bl, .int .i64 bt, .slice MA mn mc] 43)
      generalize (wr.alloc (.cells #[.string bn, .int .i64 bl, .int .i64 bt, .slice MA mn mc] 43)) = ws1 at *
      generalize wr.heap.size = gB at *
      go_cut [6] from 16 to 30 (fun av wq => av = .int .i64 ((slide qs bn k : Nat) : Int) ∧ Own wq gB 43 [.string bn, .int .i64 bl, .int .i64 bt, .slice MA mn mc] ∧ Hid (Row V wq A2 (bxs qs)) ∧ Kept w wq)
      case first =>
        go_wp2_with fail
        go_loopw [6] (fun av wq => ∃ a : Nat, a ≤ k ∧ av = .int .i64 a ∧ Hid (slide qs bn a = slide qs bn k) ∧ Own wq gB 43 [.string bn, .int .i64 bl, .int .i64 bt, .slice MA mn mc] ∧ Hid (Row V wq A2 (bxs qs)) ∧ Kept w wq) (fun av _ => (intOf av).toNat)
        case atStart => exact ⟨k, Nat.le_refl _, rfl, rfl, OB.out, HQ.out, K⟩
        case round =>
          clear HQ K OB
          obtain ⟨a, ha, rfl, HSL2, ob, HQ, K⟩ := hrel
          have OB := Lib.hid ob
          clear ob
          have a0 : (0 : Int) ≤ (a : Int) := by omega
          obtain ⟨cB0, cB1, cB2, cB3⟩ := OB.out.four
          by_cases h1 : 1 < a
          · have h1' : (1 : Int) < (a : Int) := by omega
            obtain ⟨b2, o2, rfl, hb2, _, hcs⟩ := HQ.out (by rw [bxs_length, HSL.out]; omega)
            have ha1 : a - 1 < qs.length := by rw [HSL.out]; omega
            have gp := hcs _ _ (bxs_at ha1).1
            have HBA := Lib.hid (bpAt_lt ha1)
            rw [← HBA.out] at gp
            clear hcs
            obtain ⟨lt, hlt'⟩ : ∃ p, Op.bytesLess (bpAt qs (a - 1)).1.name.toList bn.toList = p := ⟨_, rfl⟩
            obtain ⟨eq, heq'⟩ : ∃ p, ((bpAt qs (a - 1)).1.name.toList == bn.toList) = p := ⟨_, rfl⟩
            have HGT : Hid (gtB (bpAt qs (a - 1)).1.name bn = !(lt || eq)) := by show _ = _; unfold gtB; rw [hlt', heq']
            have HGO : Hid (gtB (bpAt qs (a - 1)).1.name bn = true → slide qs bn (a - 1) = slide qs bn k) := fun h => (slide_go h1 h).trans HSL2.out
            have HSTOP : Hid (gtB (bpAt qs (a - 1)).1.name bn = false → slide qs bn k = a) := fun h => HSL2.out.symm.trans (slide_stop (.inr h))
            generalize (bpAt qs (a - 1)).1.name = pn at *
            have i0 : (0 : Int) ≤ (a : Int) - 1 := by omega
            have i00 : (1 : Int) ≤ (a : Int) := by omega
            have i1 : (a : Int) - 1 < (k : Int) := by omega
            have i2 : ((a : Int) - 1).toNat = a - 1 := by omega
            have i3 : IntKind.i64.wrap ((a : Int) - 1) = (a : Int) - 1 := IntWalk.i64_in _ (by omega)
            cases lt with
            | true =>
              have HA := Lib.hid (HSTOP.out (by rw [HGT.out]; rfl))
              go_wp2_with fail
              go_quiet (fail)
              go_wp2_with fail
              go_meet
              exact ⟨by rw [HA.out], OB.out.drewN _, HQ.out.kept ((Kept.refl _).drewN _), K.drewN _⟩
            | false =>
              cases eq with
              | true =>
                have HA := Lib.hid (HSTOP.out (by rw [HGT.out]; rfl))
                go_wp2_with fail
                go_quiet (fail)
                go_wp2_with fail
                go_meet
                exact ⟨by rw [HA.out], OB.out.drewN _, HQ.out.kept ((Kept.refl _).drewN _), K.drewN _⟩
              | false =>
                have HA := Lib.hid (HGO.out (by rw [HGT.out]; rfl))
                go_wp2_with fail
                go_quiet (fail)
                go_wp2
                go_roundw
                case rel => exact ⟨a - 1, by omega, by go_num, HA.out, OB.out.drewN _, HQ.out.kept ((Kept.refl _).drewN _), K.drewN _⟩
                case measure => simp [intOf]; omega
          · have HA : Hid (slide qs bn k = a) := HSL2.out.symm.trans (slide_stop (.inl (by omega)))
            have h1' : decide ((1 : Int) < (a : Int)) = false := decide_eq_false (by omega)
            have h1'' : decide (1 < a) = false := decide_eq_false (by omega)
            go_wp2_with fail
            go_quiet (fail)
            go_wp2_with fail
            go_meet
            exact ⟨by rw [HA.out], OB.out.drewN _, HQ.out.kept ((Kept.refl _).drewN _), K.drewN _⟩
      case rest =>
        clear HQ K OB
        obtain ⟨rfl, ob, HQ, K⟩ := hcut
        have OB := Lib.hid ob
        clear ob
        have hsl := slide_le qs bn k
        generalize hat_ : slide qs bn k = at_ at *
        have HAT := Lib.hid hat_
        clear hat_
        have HTK : Hid ((qs.take at_).length = at_) := by show _ = _; rw [List.length_take, HSL.out]; omega
        have HDK : Hid ((qs.drop at_).length = k - at_) := by show _ = _; rw [List.length_drop, HSL.out]
        have HLP : Hid ((qs.take at_ ++ [((⟨bn, bl, bt, bml⟩ : Bx), Value.slice MA mn mc)]).length = at_ + 1) := by show _ = _; rw [List.length_append, HTK.out]; rfl
        have HLK : Hid (((qs.take at_ ++ [((⟨bn, bl, bt, bml⟩ : Bx), Value.slice MA mn mc)]) ++ qs.drop at_).length = k + 1) := by show _ = _; rw [List.length_append, HLP.out, HDK.out]; omega
        have HTF : Hid (∀ u ∈ bxs (qs.take at_), u.oneCell' = true) := bxs_one _ (fun p hp => HSF.out p (List.mem_of_mem_take hp))
        have HDF : Hid (∀ u ∈ bxs (qs.drop at_), u.oneCell' = true) := bxs_one _ (fun p hp => HSF.out p (List.mem_of_mem_drop hp))
        have HR1 : Hid (Row V wc A2 (bxs (qs.take at_))) := by show Row _ _ _ _; rw [bxs_take]; exact HQ.out.take_ _
        have a0 : (0 : Int) ≤ (at_ : Int) := by omega
        have a1 : (at_ : Int) ≤ (c2 : Int) := by omega
        have a2 : (at_ : Int) ≤ (k : Int) := by omega
        have a3 : at_ ≤ c2 := by omega
        have zw := K.size
        rcases Nat.eq_zero_or_pos k with hk0 | hk0
        · subst hk0
          obtain ⟨rfl, rfl⟩ := HZ.out rfl
          obtain rfl : at_ = 0 := by omega
          have HR2 : Hid (Row V wc none (bxs (qs.drop 0))) := by
            show Row _ _ _ _
            rw [List.drop_of_length_le (by rw [HSL.out]; omega)]; exact Row.nil _ _ _
          go_upto_region 9 with fail
          have CB0 : ∀ W', Kept wc W' → W'.cell? ⟨gB, 0, none⟩ = some (.string bn) := fun W' hk => (OB.out.kept hk).cell? 0
          have CB1 : ∀ W', Kept wc W' → W'.cell? ⟨gB, 1, none⟩ = some (.int .i64 bl) := fun W' hk => (OB.out.kept hk).cell? 1
          have CB2 : ∀ W', Kept wc W' → W'.cell? ⟨gB, 2, none⟩ = some (.int .i64 bt) := fun W' hk => (OB.out.kept hk).cell? 2
          have CB3 : ∀ W', Kept wc W' → W'.cell? ⟨gB, 3, none⟩ = some (.slice MA mn mc) := fun W' hk => (OB.out.kept hk).cell? 3
          refine wp_region_Z (S := fun W' => Kept wc W') (Z := []) (by kernel_rfl) ((Kept.refl _).drew) (fun hHeld => ?_)
          have kr := (Kept.refl wc).drew
          have Kr := K
          have zr := K.size
          have OBr := OB
          have HQr := HQ
          have HR1r := HR1
          have HR2r := HR2
          replace OB := Lib.hid (OBr.out.kept kr)
          replace HQ := Lib.hid (HQr.out.go kr (Ext.refl _ _))
          replace HR1 := Lib.hid (HR1r.out.go kr (Ext.refl _ _))
          replace HR2 := Lib.hid (HR2r.out.go kr (Ext.refl _ _))
          replace K := Kr.trans kr
          generalize wc.drew = wq1 at *
          refine wpAnyZ_take (i := 0) (oi := { dst := some 31, op := Op.move (Operand.tmp 7), type := 27, pos := "ref.go:161", after := #[], guard := none }) (v := ?_) rfl (by kernel_rfl) (fun _ _ _ h => h) (Or.inl ⟨by rfl, ?_⟩) (by assumption) ?_
          rotate_left
          · (intro wz hSw; (try dsimp only at hSw); go_simp; (try with_reducible rfl))
          (try simp only [Act.put, List.setIfInBounds_toArray, List.set_cons_zero, List.set_cons_succ])
          refine wpAnyZ_take (i := 1) (oi := { dst := some 32, op := Op.move (Operand.tmp 3), type := 27, pos := "ref.go:161", after := #[], guard := none }) (v := ?_) rfl (by kernel_rfl) (fun _ _ _ h => h) (Or.inl ⟨by rfl, ?_⟩) (by assumption) ?_
          rotate_left
          · (intro wz hSw; (try dsimp only at hSw); go_simp; (try with_reducible rfl))
          (try simp only [Act.put, List.setIfInBounds_toArray, List.set_cons_zero, List.set_cons_succ])
          refine wpAnyZ_take (i := 2) (oi := { dst := some 33, op := Op.move (Operand.tmp 6), type := 3, pos := "ref.go:161", after := #[], guard := none }) (v := ?_) rfl (by kernel_rfl) (fun _ _ _ h => h) (Or.inl ⟨by rfl, ?_⟩) (by assumption) ?_
          rotate_left
          · (intro wz hSw; (try dsimp only at hSw); go_simp; (try with_reducible rfl))
          (try simp only [Act.put, List.setIfInBounds_toArray, List.set_cons_zero, List.set_cons_succ])
          refine wpAnyZ_take (i := 3) (oi := { dst := some 34, op := Op.slice 27 (Operand.tmp 32) none (some (Operand.tmp 33)) none, type := 27, pos := "ref.go:161", after := #[{ on := 1, ground := Ground.data }, { on := 2, ground := Ground.data }], guard := none }) (v := ?_) rfl (by kernel_rfl) (fun _ _ _ h => h) (Or.inl ⟨by rfl, ?_⟩) (by assumption) ?_
          rotate_left
          · (intro wz hSw; (try dsimp only at hSw); go_simp; (try with_reducible rfl))
          (try simp only [Act.put, List.setIfInBounds_toArray, List.set_cons_zero, List.set_cons_succ])
          refine wpAnyZ_take (i := 5) (oi := { dst := some 36, op := Op.load 43 (Operand.tmp 5), type := 43, pos := "ref.go:161", after := #[], guard := none }) (v := ?_) rfl (by kernel_rfl) (fun _ _ _ h => h) (Or.inl ⟨by rfl, ?_⟩) (by assumption) ?_
          rotate_left
          · (intro wz hSw; (try dsimp only at hSw); go_simp; (try with_reducible rfl))
          (try simp only [Act.put, List.setIfInBounds_toArray, List.set_cons_zero, List.set_cons_succ])
          refine wpAnyZ_take (i := 8) (oi := { dst := some 39, op := Op.move (Operand.tmp 3), type := 27, pos := "ref.go:161", after := #[], guard := none }) (v := ?_) rfl (by kernel_rfl) (fun _ _ _ h => h) (Or.inl ⟨by rfl, ?_⟩) (by assumption) ?_
          rotate_left
          · (intro wz hSw; (try dsimp only at hSw); go_simp; (try with_reducible rfl))
          (try simp only [Act.put, List.setIfInBounds_toArray, List.set_cons_zero, List.set_cons_succ])
          refine wpAnyZ_take (i := 9) (oi := { dst := some 40, op := Op.move (Operand.tmp 6), type := 3, pos := "ref.go:161", after := #[], guard := none }) (v := ?_) rfl (by kernel_rfl) (fun _ _ _ h => h) (Or.inl ⟨by rfl, ?_⟩) (by assumption) ?_
          rotate_left
          · (intro wz hSw; (try dsimp only at hSw); go_simp; (try with_reducible rfl))
          (try simp only [Act.put, List.setIfInBounds_toArray, List.set_cons_zero, List.set_cons_succ])
          refine wpAnyZ_take (i := 10) (oi := { dst := some 41, op := Op.slice 27 (Operand.tmp 39) (some (Operand.tmp 40)) none none, type := 27, pos := "ref.go:161", after := #[{ on := 8, ground := Ground.data }, { on := 9, ground := Ground.data }], guard := none }) (v := ?_) rfl (by kernel_rfl) (fun _ _ _ h => h) (Or.inl ⟨by rfl, ?_⟩) (by assumption) ?_
          rotate_left
          · (intro wz hSw; (try dsimp only at hSw); go_simp; (try with_reducible rfl))
          (try simp only [Act.put, List.setIfInBounds_toArray, List.set_cons_zero, List.set_cons_succ])
          refine wpAnyZ_ready (rs := [4, 6]) (by kernel_rfl) (by simp) ?_
          refine AllReadyZ.cons (o := { dst := some 35, op := Op.call { callee := Callee.builtin Builtin.append, args := #[Operand.tmp 31, Operand.tmp 34], argTypes := #[27, 27] }, type := 27, pos := "ref.go:161", after := #[{ on := 0, ground := Ground.data }, { on := 3, ground := Ground.data }], guard := none }) rfl (fun KK hKK => ?_) ?_
          · skip
            refine Try.elRb.step_app rfl _ _ rfl wc.heap.size (.slice none 0 0) [] rfl (World.ownsRow_nil _ _ _ _) V _ _ (qs.take 0) (by rw [HTK.out]; rfl) HR1.out HTF.out (by rw [HTK.out]; unfold maxLen; simp <;> omega) (by rw [HTK.out]; simp <;> omega) kr.size ?_
            intro v4 wq2 hap hgr hat
            replace kr := kr.grown hgr (fun k hk => by cases hk)
            clear hHeld
            replace OB := Lib.hid (OBr.out.kept kr)
            replace HQ := Lib.hid (HQr.out.go kr (Ext.refl _ _))
            replace HR1 := Lib.hid (HR1r.out.go kr (Ext.refl _ _))
            replace HR2 := Lib.hid (HR2r.out.go kr (Ext.refl _ _))
            replace K := Kr.trans kr
            simp only [List.nil_append] at hap
            rw [HTK.out] at hap
            obtain ⟨A4, c4, rfl, _, _, _⟩ := own_form (V := []) hap (by simp)
            have H4 := Lib.hid hap
            clear hap hgr hat
            refine hKK.out _ _ ?_ (fun hHeld => ?_)
            · exact kr
            clear hKK KK
            (try simp only [Act.put, List.setIfInBounds_toArray, List.set_cons_zero, List.set_cons_succ])
            refine wpAnyZ_ready (rs := [6]) (by kernel_rfl) (by simp) ?_
            refine AllReadyZ.cons (o := { dst := some 37, op := Op.buildSlice 27 1 #[(0, Operand.tmp 36)], type := 27, pos := "ref.go:161", after := #[{ on := 5, ground := Ground.data }], guard := none }) rfl (fun KK hKK => ?_) AllReadyZ.nil
            go_simp
            replace kr := kr.alloc (.cells #[.string bn, .int .i64 bl, .int .i64 bt, .slice MA mn mc] 43)
            clear hHeld
            have OS := Lib.hid (Own.new wq2 43 [.string bn, .int .i64 bl, .int .i64 bt, .slice MA mn mc])
            replace H4 := Lib.hid (H4.out.alloc (.cells #[.string bn, .int .i64 bl, .int .i64 bt, .slice MA mn mc] 43))
            replace OB := Lib.hid (OBr.out.kept kr)
            replace HQ := Lib.hid (HQr.out.go kr (Ext.refl _ _))
            replace HR1 := Lib.hid (HR1r.out.go kr (Ext.refl _ _))
            replace HR2 := Lib.hid (HR2r.out.go kr (Ext.refl _ _))
            replace K := Kr.trans kr
            generalize (wq2.alloc (.cells #[.string bn, .int .i64 bl, .int .i64 bt, .slice MA mn mc] 43)) = wq3 at *
            generalize wq2.heap.size = bS at *
            refine hKK.out _ _ ?_ (fun hHeld => ?_)
            · exact kr
            clear hKK KK
            (try simp only [Act.put, List.setIfInBounds_toArray, List.set_cons_zero, List.set_cons_succ])
            refine wpAnyZ_ready (rs := [7]) (by kernel_rfl) (by simp) ?_
            refine AllReadyZ.cons (o := { dst := some 38, op := Op.call { callee := Callee.builtin Builtin.append, args := #[Operand.tmp 35, Operand.tmp 37], argTypes := #[27, 27] }, type := 27, pos := "ref.go:161", after := #[{ on := 4, ground := Ground.data }, { on := 6, ground := Ground.data }, { on := 4, ground := Ground.chain }], guard := none }) rfl (fun KK hKK => ?_) AllReadyZ.nil
            refine Try.elRb.step_app rfl _ _ rfl wc.heap.size (.slice A4 0 c4) (qs.take 0) rfl (by rw [HTK.out]; exact H4.out) [] (some ⟨bS, 0, none⟩) 1 [(⟨bn, bl, bt, bml⟩, .slice MA mn mc)] rfl (OS.out.row (by simp)) (bxs_one _ (fun p hp => by rw [List.mem_singleton.1 hp]; exact ⟨_, _, _, rfl⟩)) (by rw [HTK.out]; unfold maxLen; simp <;> omega) (by rw [HTK.out]; simp <;> omega) kr.size ?_
            intro v7 wq4 hap hgr hat
            replace kr := kr.grown hgr (fun k hk => (ownBlock_of H4.out hk).1)
            clear hHeld
            replace OB := Lib.hid (OBr.out.kept kr)
            replace HQ := Lib.hid (HQr.out.go kr (Ext.refl _ _))
            replace HR1 := Lib.hid (HR1r.out.go kr (Ext.refl _ _))
            replace HR2 := Lib.hid (HR2r.out.go kr (Ext.refl _ _))
            replace K := Kr.trans kr
            rw [HLP.out] at hap
            obtain ⟨A7, c7, rfl, _, _, _⟩ := own_form (V := []) hap (by simp)
            have H7 := Lib.hid hap
            clear hap hgr hat
            refine hKK.out _ _ ?_ (fun hHeld => ?_)
            · exact kr
            clear hKK KK
            (try simp only [Act.put, List.setIfInBounds_toArray, List.set_cons_zero, List.set_cons_succ])
            refine wpAnyZ_ready (rs := [11]) (by kernel_rfl) (by simp) ?_
            refine AllReadyZ.cons (o := { dst := some 42, op := Op.call { callee := Callee.builtin Builtin.append, args := #[Operand.tmp 38, Operand.tmp 41], argTypes := #[27, 27] }, type := 27, pos := "ref.go:161", after := #[{ on := 7, ground := Ground.data }, { on := 10, ground := Ground.data }, { on := 7, ground := Ground.chain }], guard := none }) rfl (fun KK hKK => ?_) AllReadyZ.nil
            refine Try.elRb.step_app rfl _ _ rfl wc.heap.size (.slice A7 (0 + 1) c7) (qs.take 0 ++ [(⟨bn, bl, bt, bml⟩, .slice MA mn mc)]) rfl (by rw [HLP.out]; exact H7.out) V _ _ (qs.drop 0) (by rw [HDK.out]; rfl) HR2.out HDF.out (by rw [HDK.out, HLP.out]; unfold maxLen; omega) (by rw [HDK.out, HLP.out]; omega) kr.size ?_
            intro v11 wq5 hap hgr hat
            replace kr := kr.grown hgr (fun k hk => (ownBlock_of H7.out hk).1)
            clear hHeld
            replace OB := Lib.hid (OBr.out.kept kr)
            replace HQ := Lib.hid (HQr.out.go kr (Ext.refl _ _))
            replace HR1 := Lib.hid (HR1r.out.go kr (Ext.refl _ _))
            replace HR2 := Lib.hid (HR2r.out.go kr (Ext.refl _ _))
            replace K := Kr.trans kr
            rw [HLK.out] at hap
            obtain ⟨A11, c11, rfl, _, _, _⟩ := own_form (V := []) hap (by simp)
            have H11 := Lib.hid hap
            clear hap hgr hat
            refine hKK.out _ _ ?_ (fun hHeld => ?_)
            · exact kr
            clear hKK KK
            (try simp only [Act.put, List.setIfInBounds_toArray, List.set_cons_zero, List.set_cons_succ])
            refine wpAnyZ_take (i := 12) (oi := { dst := some 7, op := Op.assign (Operand.tmp 42), type := 27, pos := "ref.go:161", after := #[{ on := 11, ground := Ground.data }, { on := 11, ground := Ground.chain }, { on := 0, ground := Ground.phase }, { on := 1, ground := Ground.phase }, { on := 2, ground := Ground.phase }, { on := 3, ground := Ground.phase }, { on := 4, ground := Ground.phase }, { on := 5, ground := Ground.phase }, { on := 6, ground := Ground.phase }, { on := 7, ground := Ground.phase }, { on := 8, ground := Ground.phase }, { on := 9, ground := Ground.phase }, { on := 10, ground := Ground.phase }, { on := 11, ground := Ground.phase }], guard := none }) (v := ?_) rfl (by kernel_rfl) (fun _ _ _ h => h) (Or.inl ⟨by rfl, ?_⟩) (by assumption) ?_
            rotate_left
            · (intro wz hSw; (try dsimp only at hSw); go_simp; (try with_reducible rfl))
            (try simp only [Act.put, List.setIfInBounds_toArray, List.set_cons_zero, List.set_cons_succ])
            refine wpAnyZ_done (by kernel_rfl) ?_ _
            clear CB0 CB1 CB2 CB3 OBr HQr HR1r HR2r Kr zr hHeld kr
            have HFIN : Hid (bxs (sortTo l (0 + 1)) = bxs ((qs.take 0 ++ [((⟨bn, bl, bt, bml⟩ : Bx), Value.slice MA mn mc)]) ++ qs.drop 0)) := by
              show _ = _
              rw [HST.out, HBP.out, insP, HSL.out, HAT.out, List.append_assoc]
              rfl
            have HRES : Hid (Row V wq5 A11 (bxs (sortTo l (0 + 1))) ∧ 0 + 1 ≤ c11 ∧ c11 ≤ 9223372036854775807) := by
              show _ ∧ _
              rw [HFIN.out]
              obtain ⟨A', c', e, e1, e2, e3⟩ := own_form (V := V) H11.out (fun j hj => Nat.lt_of_lt_of_le (HOV.out j hj) zw)
              cases e
              exact ⟨e3, e1, e2⟩
            clear HFIN H11 H7 H4 OS
            go_wp2
            go_roundw
            case rel => exact ⟨0 + 1, A11, c11, by omega, by go_num, rfl, HRES.out.2.1, HRES.out.2.2, fun h => absurd h (by omega), HRES.out.1, K⟩
            case measure => simp [intOf]; omega
          refine AllReadyZ.cons (o := { dst := some 37, op := Op.buildSlice 27 1 #[(0, Operand.tmp 36)], type := 27, pos := "ref.go:161", after := #[{ on := 5, ground := Ground.data }], guard := none }) rfl (fun KK hKK => ?_) AllReadyZ.nil
          go_simp
          replace kr := kr.alloc (.cells #[.string bn, .int .i64 bl, .int .i64 bt, .slice MA mn mc] 43)
          clear hHeld
          have OS := Lib.hid (Own.new wq1 43 [.string bn, .int .i64 bl, .int .i64 bt, .slice MA mn mc])
          replace OB := Lib.hid (OBr.out.kept kr)
          replace HQ := Lib.hid (HQr.out.go kr (Ext.refl _ _))
          replace HR1 := Lib.hid (HR1r.out.go kr (Ext.refl _ _))
          replace HR2 := Lib.hid (HR2r.out.go kr (Ext.refl _ _))
          replace K := Kr.trans kr
          generalize (wq1.alloc (.cells #[.string bn, .int .i64 bl, .int .i64 bt, .slice MA mn mc] 43)) = wq2 at *
          generalize wq1.heap.size = bS at *
          refine hKK.out _ _ ?_ (fun hHeld => ?_)
          · exact kr
          clear hKK KK
          (try simp only [Act.put, List.setIfInBounds_toArray, List.set_cons_zero, List.set_cons_succ])
          refine wpAnyZ_ready (rs := [4]) (by kernel_rfl) (by simp) ?_
          refine AllReadyZ.cons (o := { dst := some 35, op := Op.call { callee := Callee.builtin Builtin.append, args := #[Operand.tmp 31, Operand.tmp 34], argTypes := #[27, 27] }, type := 27, pos := "ref.go:161", after := #[{ on := 0, ground := Ground.data }, { on := 3, ground := Ground.data }], guard := none }) rfl (fun KK hKK => ?_) AllReadyZ.nil
          refine Try.elRb.step_app rfl _ _ rfl wc.heap.size (.slice none 0 0) [] rfl (World.ownsRow_nil _ _ _ _) V _ _ (qs.take 0) (by rw [HTK.out]; rfl) HR1.out HTF.out (by rw [HTK.out]; unfold maxLen; simp <;> omega) (by rw [HTK.out]; simp <;> omega) kr.size ?_
          intro v4 wq3 hap hgr hat
          replace kr := kr.grown hgr (fun k hk => by cases hk)
          clear hHeld
          replace OB := Lib.hid (OBr.out.kept kr)
          replace HQ := Lib.hid (HQr.out.go kr (Ext.refl _ _))
          replace HR1 := Lib.hid (HR1r.out.go kr (Ext.refl _ _))
          replace HR2 := Lib.hid (HR2r.out.go kr (Ext.refl _ _))
          replace K := Kr.trans kr
          simp only [List.nil_append] at hap
          rw [HTK.out] at hap
          obtain ⟨A4, c4, rfl, _, _, _⟩ := own_form (V := []) hap (by simp)
          have H4 := Lib.hid hap
          replace OS := Lib.hid (OS.out.grown hgr (by simp [Value.ownBlock]))
          clear hap hgr hat
          refine hKK.out _ _ ?_ (fun hHeld => ?_)
          · exact kr
          clear hKK KK
          (try simp only [Act.put, List.setIfInBounds_toArray, List.set_cons_zero, List.set_cons_succ])
          refine wpAnyZ_ready (rs := [7]) (by kernel_rfl) (by simp) ?_
          refine AllReadyZ.cons (o := { dst := some 38, op := Op.call { callee := Callee.builtin Builtin.append, args := #[Operand.tmp 35, Operand.tmp 37], argTypes := #[27, 27] }, type := 27, pos := "ref.go:161", after := #[{ on := 4, ground := Ground.data }, { on := 6, ground := Ground.data }, { on := 4, ground := Ground.chain }], guard := none }) rfl (fun KK hKK => ?_) AllReadyZ.nil
          refine Try.elRb.step_app rfl _ _ rfl wc.heap.size (.slice A4 0 c4) (qs.take 0) rfl (by rw [HTK.out]; exact H4.out) [] (some ⟨bS, 0, none⟩) 1 [(⟨bn, bl, bt, bml⟩, .slice MA mn mc)] rfl (OS.out.row (by simp)) (bxs_one _ (fun p hp => by rw [List.mem_singleton.1 hp]; exact ⟨_, _, _, rfl⟩)) (by rw [HTK.out]; unfold maxLen; simp <;> omega) (by rw [HTK.out]; simp <;> omega) kr.size ?_
          intro v7 wq4 hap hgr hat
          replace kr := kr.grown hgr (fun k hk => (ownBlock_of H4.out hk).1)
          clear hHeld
          replace OB := Lib.hid (OBr.out.kept kr)
          replace HQ := Lib.hid (HQr.out.go kr (Ext.refl _ _))
          replace HR1 := Lib.hid (HR1r.out.go kr (Ext.refl _ _))
          replace HR2 := Lib.hid (HR2r.out.go kr (Ext.refl _ _))
          replace K := Kr.trans kr
          rw [HLP.out] at hap
          obtain ⟨A7, c7, rfl, _, _, _⟩ := own_form (V := []) hap (by simp)
          have H7 := Lib.hid hap
          clear hap hgr hat
          refine hKK.out _ _ ?_ (fun hHeld => ?_)
          · exact kr
          clear hKK KK
          (try simp only [Act.put, List.setIfInBounds_toArray, List.set_cons_zero, List.set_cons_succ])
          refine wpAnyZ_ready (rs := [11]) (by kernel_rfl) (by simp) ?_
          refine AllReadyZ.cons (o := { dst := some 42, op := Op.call { callee := Callee.builtin Builtin.append, args := #[Operand.tmp 38, Operand.tmp 41], argTypes := #[27, 27] }, type := 27, pos := "ref.go:161", after := #[{ on := 7, ground := Ground.data }, { on := 10, ground := Ground.data }, { on := 7, ground := Ground.chain }], guard := none }) rfl (fun KK hKK => ?_) AllReadyZ.nil
          refine Try.elRb.step_app rfl _ _ rfl wc.heap.size (.slice A7 (0 + 1) c7) (qs.take 0 ++ [(⟨bn, bl, bt, bml⟩, .slice MA mn mc)]) rfl (by rw [HLP.out]; exact H7.out) V _ _ (qs.drop 0) (by rw [HDK.out]; rfl) HR2.out HDF.out (by rw [HDK.out, HLP.out]; unfold maxLen; omega) (by rw [HDK.out, HLP.out]; omega) kr.size ?_
          intro v11 wq5 hap hgr hat
          replace kr := kr.grown hgr (fun k hk => (ownBlock_of H7.out hk).1)
          clear hHeld
          replace OB := Lib.hid (OBr.out.kept kr)
          replace HQ := Lib.hid (HQr.out.go kr (Ext.refl _ _))
          replace HR1 := Lib.hid (HR1r.out.go kr (Ext.refl _ _))
          replace HR2 := Lib.hid (HR2r.out.go kr (Ext.refl _ _))
          replace K := Kr.trans kr
          rw [HLK.out] at hap
          obtain ⟨A11, c11, rfl, _, _, _⟩ := own_form (V := []) hap (by simp)
          have H11 := Lib.hid hap
          clear hap hgr hat
          refine hKK.out _ _ ?_ (fun hHeld => ?_)
          · exact kr
          clear hKK KK
          (try simp only [Act.put, List.setIfInBounds_toArray, List.set_cons_zero, List.set_cons_succ])
          refine wpAnyZ_take (i := 12) (oi := { dst := some 7, op := Op.assign (Operand.tmp 42), type := 27, pos := "ref.go:161", after := #[{ on := 11, ground := Ground.data }, { on := 11, ground := Ground.chain }, { on := 0, ground := Ground.phase }, { on := 1, ground := Ground.phase }, { on := 2, ground := Ground.phase }, { on := 3, ground := Ground.phase }, { on := 4, ground := Ground.phase }, { on := 5, ground := Ground.phase }, { on := 6, ground := Ground.phase }, { on := 7, ground := Ground.phase }, { on := 8, ground := Ground.phase }, { on := 9, ground := Ground.phase }, { on := 10, ground := Ground.phase }, { on := 11, ground := Ground.phase }], guard := none }) (v := ?_) rfl (by kernel_rfl) (fun _ _ _ h => h) (Or.inl ⟨by rfl, ?_⟩) (by assumption) ?_
          rotate_left
          · (intro wz hSw; (try dsimp only at hSw); go_simp; (try with_reducible rfl))
          (try simp only [Act.put, List.setIfInBounds_toArray, List.set_cons_zero, List.set_cons_succ])
          refine wpAnyZ_done (by kernel_rfl) ?_ _
          clear CB0 CB1 CB2 CB3 OBr HQr HR1r HR2r Kr zr hHeld kr
          have HFIN : Hid (bxs (sortTo l (0 + 1)) = bxs ((qs.take 0 ++ [((⟨bn, bl, bt, bml⟩ : Bx), Value.slice MA mn mc)]) ++ qs.drop 0)) := by
            show _ = _
            rw [HST.out, HBP.out, insP, HSL.out, HAT.out, List.append_assoc]
            rfl
          have HRES : Hid (Row V wq5 A11 (bxs (sortTo l (0 + 1))) ∧ 0 + 1 ≤ c11 ∧ c11 ≤ 9223372036854775807) := by
            show _ ∧ _
            rw [HFIN.out]
            obtain ⟨A', c', e, e1, e2, e3⟩ := own_form (V := V) H11.out (fun j hj => Nat.lt_of_lt_of_le (HOV.out j hj) zw)
            cases e
            exact ⟨e3, e1, e2⟩
          clear HFIN H11 H7 H4 OS
          go_wp2
          go_roundw
          case rel => exact ⟨0 + 1, A11, c11, by omega, by go_num, rfl, HRES.out.2.1, HRES.out.2.2, fun h => absurd h (by omega), HRES.out.1, K⟩
          case measure => simp [intOf]; omega
        · obtain ⟨b2, o2, rfl, hb2, _, _⟩ := HQ.out (by rw [bxs_length, HSL.out]; omega)
          have HR2 : Hid (Row V wc (if c2 = at_ then some ⟨b2, o2, none⟩ else some ⟨b2, o2 + at_ * 4, none⟩) (bxs (qs.drop at_))) := by
            show Row _ _ _ _
            by_cases hc : c2 = at_
            · rw [List.drop_of_length_le (by rw [HSL.out]; omega)]; exact Row.nil _ _ _
            · rw [if_neg hc, bxs_drop]; exact HQ.out.drop_ _
          go_upto_region 9 with fail
          have CB0 : ∀ W', Kept wc W' → W'.cell? ⟨gB, 0, none⟩ = some (.string bn) := fun W' hk => (OB.out.kept hk).cell? 0
          have CB1 : ∀ W', Kept wc W' → W'.cell? ⟨gB, 1, none⟩ = some (.int .i64 bl) := fun W' hk => (OB.out.kept hk).cell? 1
          have CB2 : ∀ W', Kept wc W' → W'.cell? ⟨gB, 2, none⟩ = some (.int .i64 bt) := fun W' hk => (OB.out.kept hk).cell? 2
          have CB3 : ∀ W', Kept wc W' → W'.cell? ⟨gB, 3, none⟩ = some (.slice MA mn mc) := fun W' hk => (OB.out.kept hk).cell? 3
          refine wp_region_Z (S := fun W' => Kept wc W') (Z := []) (by kernel_rfl) ((Kept.refl _).drew) (fun hHeld => ?_)
          have kr := (Kept.refl wc).drew
          have Kr := K
          have zr := K.size
          have OBr := OB
          have HQr := HQ
          have HR1r := HR1
          have HR2r := HR2
          replace OB := Lib.hid (OBr.out.kept kr)
          replace HQ := Lib.hid (HQr.out.go kr (Ext.refl _ _))
          replace HR1 := Lib.hid (HR1r.out.go kr (Ext.refl _ _))
          replace HR2 := Lib.hid (HR2r.out.go kr (Ext.refl _ _))
          replace K := Kr.trans kr
          generalize wc.drew = wq1 at *
          refine wpAnyZ_take (i := 0) (oi := { dst := some 31, op := Op.move (Operand.tmp 7), type := 27, pos := "ref.go:161", after := #[], guard := none }) (v := ?_) rfl (by kernel_rfl) (fun _ _ _ h => h) (Or.inl ⟨by rfl, ?_⟩) (by assumption) ?_
          rotate_left
          · (intro wz hSw; (try dsimp only at hSw); go_simp; (try with_reducible rfl))
          (try simp only [Act.put, List.setIfInBounds_toArray, List.set_cons_zero, List.set_cons_succ])
          refine wpAnyZ_take (i := 1) (oi := { dst := some 32, op := Op.move (Operand.tmp 3), type := 27, pos := "ref.go:161", after := #[], guard := none }) (v := ?_) rfl (by kernel_rfl) (fun _ _ _ h => h) (Or.inl ⟨by rfl, ?_⟩) (by assumption) ?_
          rotate_left
          · (intro wz hSw; (try dsimp only at hSw); go_simp; (try with_reducible rfl))
          (try simp only [Act.put, List.setIfInBounds_toArray, List.set_cons_zero, List.set_cons_succ])
          refine wpAnyZ_take (i := 2) (oi := { dst := some 33, op := Op.move (Operand.tmp 6), type := 3, pos := "ref.go:161", after := #[], guard := none }) (v := ?_) rfl (by kernel_rfl) (fun _ _ _ h => h) (Or.inl ⟨by rfl, ?_⟩) (by assumption) ?_
          rotate_left
          · (intro wz hSw; (try dsimp only at hSw); go_simp; (try with_reducible rfl))
          (try simp only [Act.put, List.setIfInBounds_toArray, List.set_cons_zero, List.set_cons_succ])
          refine wpAnyZ_take (i := 3) (oi := { dst := some 34, op := Op.slice 27 (Operand.tmp 32) none (some (Operand.tmp 33)) none, type := 27, pos := "ref.go:161", after := #[{ on := 1, ground := Ground.data }, { on := 2, ground := Ground.data }], guard := none }) (v := ?_) rfl (by kernel_rfl) (fun _ _ _ h => h) (Or.inl ⟨by rfl, ?_⟩) (by assumption) ?_
          rotate_left
          · (intro wz hSw; (try dsimp only at hSw); go_simp; (try with_reducible rfl))
          (try simp only [Act.put, List.setIfInBounds_toArray, List.set_cons_zero, List.set_cons_succ])
          refine wpAnyZ_take (i := 5) (oi := { dst := some 36, op := Op.load 43 (Operand.tmp 5), type := 43, pos := "ref.go:161", after := #[], guard := none }) (v := ?_) rfl (by kernel_rfl) (fun _ _ _ h => h) (Or.inl ⟨by rfl, ?_⟩) (by assumption) ?_
          rotate_left
          · (intro wz hSw; (try dsimp only at hSw); go_simp; (try with_reducible rfl))
          (try simp only [Act.put, List.setIfInBounds_toArray, List.set_cons_zero, List.set_cons_succ])
          refine wpAnyZ_take (i := 8) (oi := { dst := some 39, op := Op.move (Operand.tmp 3), type := 27, pos := "ref.go:161", after := #[], guard := none }) (v := ?_) rfl (by kernel_rfl) (fun _ _ _ h => h) (Or.inl ⟨by rfl, ?_⟩) (by assumption) ?_
          rotate_left
          · (intro wz hSw; (try dsimp only at hSw); go_simp; (try with_reducible rfl))
          (try simp only [Act.put, List.setIfInBounds_toArray, List.set_cons_zero, List.set_cons_succ])
          refine wpAnyZ_take (i := 9) (oi := { dst := some 40, op := Op.move (Operand.tmp 6), type := 3, pos := "ref.go:161", after := #[], guard := none }) (v := ?_) rfl (by kernel_rfl) (fun _ _ _ h => h) (Or.inl ⟨by rfl, ?_⟩) (by assumption) ?_
          rotate_left
          · (intro wz hSw; (try dsimp only at hSw); go_simp; (try with_reducible rfl))
          (try simp only [Act.put, List.setIfInBounds_toArray, List.set_cons_zero, List.set_cons_succ])
          refine wpAnyZ_take (i := 10) (oi := { dst := some 41, op := Op.slice 27 (Operand.tmp 39) (some (Operand.tmp 40)) none none, type := 27, pos := "ref.go:161", after := #[{ on := 8, ground := Ground.data }, { on := 9, ground := Ground.data }], guard := none }) (v := ?_) rfl (by kernel_rfl) (fun _ _ _ h => h) (Or.inl ⟨by rfl, ?_⟩) (by assumption) ?_
          rotate_left
          · (intro wz hSw; (try dsimp only at hSw); go_simp; (try with_reducible rfl))
          (try simp only [Act.put, List.setIfInBounds_toArray, List.set_cons_zero, List.set_cons_succ])
          refine wpAnyZ_ready (rs := [4, 6]) (by kernel_rfl) (by simp) ?_
          refine AllReadyZ.cons (o := { dst := some 35, op := Op.call { callee := Callee.builtin Builtin.append, args := #[Operand.tmp 31, Operand.tmp 34], argTypes := #[27, 27] }, type := 27, pos := "ref.go:161", after := #[{ on := 0, ground := Ground.data }, { on := 3, ground := Ground.data }], guard := none }) rfl (fun KK hKK => ?_) ?_
          · skip
            refine Try.elRb.step_app rfl _ _ rfl wc.heap.size (.slice none 0 0) [] rfl (World.ownsRow_nil _ _ _ _) V _ _ (qs.take at_) (by rw [HTK.out]; rfl) HR1.out HTF.out (by rw [HTK.out]; unfold maxLen; simp <;> omega) (by rw [HTK.out]; simp <;> omega) kr.size ?_
            intro v4 wq2 hap hgr hat
            replace kr := kr.grown hgr (fun k hk => by cases hk)
            clear hHeld
            replace OB := Lib.hid (OBr.out.kept kr)
            replace HQ := Lib.hid (HQr.out.go kr (Ext.refl _ _))
            replace HR1 := Lib.hid (HR1r.out.go kr (Ext.refl _ _))
            replace HR2 := Lib.hid (HR2r.out.go kr (Ext.refl _ _))
            replace K := Kr.trans kr
            simp only [List.nil_append] at hap
            rw [HTK.out] at hap
            obtain ⟨A4, c4, rfl, _, _, _⟩ := own_form (V := []) hap (by simp)
            have H4 := Lib.hid hap
            clear hap hgr hat
            refine hKK.out _ _ ?_ (fun hHeld => ?_)
            · exact kr
            clear hKK KK
            (try simp only [Act.put, List.setIfInBounds_toArray, List.set_cons_zero, List.set_cons_succ])
            refine wpAnyZ_ready (rs := [6]) (by kernel_rfl) (by simp) ?_
            refine AllReadyZ.cons (o := { dst := some 37, op := Op.buildSlice 27 1 #[(0, Operand.tmp 36)], type := 27, pos := "ref.go:161", after := #[{ on := 5, ground := Ground.data }], guard := none }) rfl (fun KK hKK => ?_) AllReadyZ.nil
            go_simp
            replace kr := kr.alloc (.cells #[.string bn, .int .i64 bl, .int .i64 bt, .slice MA mn mc] 43)
            clear hHeld
            have OS := Lib.hid (Own.new wq2 43 [.string bn, .int .i64 bl, .int .i64 bt, .slice MA mn mc])
            replace H4 := Lib.hid (H4.out.alloc (.cells #[.string bn, .int .i64 bl, .int .i64 bt, .slice MA mn mc] 43))
            replace OB := Lib.hid (OBr.out.kept kr)
            replace HQ := Lib.hid (HQr.out.go kr (Ext.refl _ _))
            replace HR1 := Lib.hid (HR1r.out.go kr (Ext.refl _ _))
            replace HR2 := Lib.hid (HR2r.out.go kr (Ext.refl _ _))
            replace K := Kr.trans kr
            generalize (wq2.alloc (.cells #[.string bn, .int .i64 bl, .int .i64 bt, .slice MA mn mc] 43)) = wq3 at *
            generalize wq2.heap.size = bS at *
            refine hKK.out _ _ ?_ (fun hHeld => ?_)
            · exact kr
            clear hKK KK
            (try simp only [Act.put, List.setIfInBounds_toArray, List.set_cons_zero, List.set_cons_succ])
            refine wpAnyZ_ready (rs := [7]) (by kernel_rfl) (by simp) ?_
            refine AllReadyZ.cons (o := { dst := some 38, op := Op.call { callee := Callee.builtin Builtin.append, args := #[Operand.tmp 35, Operand.tmp 37], argTypes := #[27, 27] }, type := 27, pos := "ref.go:161", after := #[{ on := 4, ground := Ground.data }, { on := 6, ground := Ground.data }, { on := 4, ground := Ground.chain }], guard := none }) rfl (fun KK hKK => ?_) AllReadyZ.nil
            refine Try.elRb.step_app rfl _ _ rfl wc.heap.size (.slice A4 at_ c4) (qs.take at_) rfl (by rw [HTK.out]; exact H4.out) [] (some ⟨bS, 0, none⟩) 1 [(⟨bn, bl, bt, bml⟩, .slice MA mn mc)] rfl (OS.out.row (by simp)) (bxs_one _ (fun p hp => by rw [List.mem_singleton.1 hp]; exact ⟨_, _, _, rfl⟩)) (by rw [HTK.out]; unfold maxLen; simp <;> omega) (by rw [HTK.out]; simp <;> omega) kr.size ?_
            intro v7 wq4 hap hgr hat
            replace kr := kr.grown hgr (fun k hk => (ownBlock_of H4.out hk).1)
            clear hHeld
            replace OB := Lib.hid (OBr.out.kept kr)
            replace HQ := Lib.hid (HQr.out.go kr (Ext.refl _ _))
            replace HR1 := Lib.hid (HR1r.out.go kr (Ext.refl _ _))
            replace HR2 := Lib.hid (HR2r.out.go kr (Ext.refl _ _))
            replace K := Kr.trans kr
            rw [HLP.out] at hap
            obtain ⟨A7, c7, rfl, _, _, _⟩ := own_form (V := []) hap (by simp)
            have H7 := Lib.hid hap
            clear hap hgr hat
            refine hKK.out _ _ ?_ (fun hHeld => ?_)
            · exact kr
            clear hKK KK
            (try simp only [Act.put, List.setIfInBounds_toArray, List.set_cons_zero, List.set_cons_succ])
            refine wpAnyZ_ready (rs := [11]) (by kernel_rfl) (by simp) ?_
            refine AllReadyZ.cons (o := { dst := some 42, op := Op.call { callee := Callee.builtin Builtin.append, args := #[Operand.tmp 38, Operand.tmp 41], argTypes := #[27, 27] }, type := 27, pos := "ref.go:161", after := #[{ on := 7, ground := Ground.data }, { on := 10, ground := Ground.data }, { on := 7, ground := Ground.chain }], guard := none }) rfl (fun KK hKK => ?_) AllReadyZ.nil
            refine Try.elRb.step_app rfl _ _ rfl wc.heap.size (.slice A7 (at_ + 1) c7) (qs.take at_ ++ [(⟨bn, bl, bt, bml⟩, .slice MA mn mc)]) rfl (by rw [HLP.out]; exact H7.out) V _ _ (qs.drop at_) (by rw [HDK.out]; rfl) HR2.out HDF.out (by rw [HDK.out, HLP.out]; unfold maxLen; omega) (by rw [HDK.out, HLP.out]; omega) kr.size ?_
            intro v11 wq5 hap hgr hat
            replace kr := kr.grown hgr (fun k hk => (ownBlock_of H7.out hk).1)
            clear hHeld
            replace OB := Lib.hid (OBr.out.kept kr)
            replace HQ := Lib.hid (HQr.out.go kr (Ext.refl _ _))
            replace HR1 := Lib.hid (HR1r.out.go kr (Ext.refl _ _))
            replace HR2 := Lib.hid (HR2r.out.go kr (Ext.refl _ _))
            replace K := Kr.trans kr
            rw [HLK.out] at hap
            obtain ⟨A11, c11, rfl, _, _, _⟩ := own_form (V := []) hap (by simp)
            have H11 := Lib.hid hap
            clear hap hgr hat
            refine hKK.out _ _ ?_ (fun hHeld => ?_)
            · exact kr
            clear hKK KK
            (try simp only [Act.put, List.setIfInBounds_toArray, List.set_cons_zero, List.set_cons_succ])
            refine wpAnyZ_take (i := 12) (oi := { dst := some 7, op := Op.assign (Operand.tmp 42), type := 27, pos := "ref.go:161", after := #[{ on := 11, ground := Ground.data }, { on := 11, ground := Ground.chain }, { on := 0, ground := Ground.phase }, { on := 1, ground := Ground.phase }, { on := 2, ground := Ground.phase }, { on := 3, ground := Ground.phase }, { on := 4, ground := Ground.phase }, { on := 5, ground := Ground.phase }, { on := 6, ground := Ground.phase }, { on := 7, ground := Ground.phase }, { on := 8, ground := Ground.phase }, { on := 9, ground := Ground.phase }, { on := 10, ground := Ground.phase }, { on := 11, ground := Ground.phase }], guard := none }) (v := ?_) rfl (by kernel_rfl) (fun _ _ _ h => h) (Or.inl ⟨by rfl, ?_⟩) (by assumption) ?_
            rotate_left
            · (intro wz hSw; (try dsimp only at hSw); go_simp; (try with_reducible rfl))
            (try simp only [Act.put, List.setIfInBounds_toArray, List.set_cons_zero, List.set_cons_succ])
            refine wpAnyZ_done (by kernel_rfl) ?_ _
            clear CB0 CB1 CB2 CB3 OBr HQr HR1r HR2r Kr zr hHeld kr
            have HFIN : Hid (bxs (sortTo l (k + 1)) = bxs ((qs.take at_ ++ [((⟨bn, bl, bt, bml⟩ : Bx), Value.slice MA mn mc)]) ++ qs.drop at_)) := by
              show _ = _
              rw [HST.out, HBP.out, insP, HSL.out, HAT.out, List.append_assoc]
              rfl
            have HRES : Hid (Row V wq5 A11 (bxs (sortTo l (k + 1))) ∧ k + 1 ≤ c11 ∧ c11 ≤ 9223372036854775807) := by
              show _ ∧ _
              rw [HFIN.out]
              obtain ⟨A', c', e, e1, e2, e3⟩ := own_form (V := V) H11.out (fun j hj => Nat.lt_of_lt_of_le (HOV.out j hj) zw)
              cases e
              exact ⟨e3, e1, e2⟩
            clear HFIN H11 H7 H4 OS
            go_wp2
            go_roundw
            case rel => exact ⟨k + 1, A11, c11, by omega, by go_num, rfl, HRES.out.2.1, HRES.out.2.2, fun h => absurd h (by omega), HRES.out.1, K⟩
            case measure => simp [intOf]; omega
          refine AllReadyZ.cons (o := { dst := some 37, op := Op.buildSlice 27 1 #[(0, Operand.tmp 36)], type := 27, pos := "ref.go:161", after := #[{ on := 5, ground := Ground.data }], guard := none }) rfl (fun KK hKK => ?_) AllReadyZ.nil
          go_simp
          replace kr := kr.alloc (.cells #[.string bn, .int .i64 bl, .int .i64 bt, .slice MA mn mc] 43)
          clear hHeld
          have OS := Lib.hid (Own.new wq1 43 [.string bn, .int .i64 bl, .int .i64 bt, .slice MA mn mc])
          replace OB := Lib.hid (OBr.out.kept kr)
          replace HQ := Lib.hid (HQr.out.go kr (Ext.refl _ _))
          replace HR1 := Lib.hid (HR1r.out.go kr (Ext.refl _ _))
          replace HR2 := Lib.hid (HR2r.out.go kr (Ext.refl _ _))
          replace K := Kr.trans kr
          generalize (wq1.alloc (.cells #[.string bn, .int .i64 bl, .int .i64 bt, .slice MA mn mc] 43)) = wq2 at *
          generalize wq1.heap.size = bS at *
          refine hKK.out _ _ ?_ (fun hHeld => ?_)
          · exact kr
          clear hKK KK
          (try simp only [Act.put, List.setIfInBounds_toArray, List.set_cons_zero, List.set_cons_succ])
          refine wpAnyZ_ready (rs := [4]) (by kernel_rfl) (by simp) ?_
          refine AllReadyZ.cons (o := { dst := some 35, op := Op.call { callee := Callee.builtin Builtin.append, args := #[Operand.tmp 31, Operand.tmp 34], argTypes := #[27, 27] }, type := 27, pos := "ref.go:161", after := #[{ on := 0, ground := Ground.data }, { on := 3, ground := Ground.data }], guard := none }) rfl (fun KK hKK => ?_) AllReadyZ.nil
          refine Try.elRb.step_app rfl _ _ rfl wc.heap.size (.slice none 0 0) [] rfl (World.ownsRow_nil _ _ _ _) V _ _ (qs.take at_) (by rw [HTK.out]; rfl) HR1.out HTF.out (by rw [HTK.out]; unfold maxLen; simp <;> omega) (by rw [HTK.out]; simp <;> omega) kr.size ?_
          intro v4 wq3 hap hgr hat
          replace kr := kr.grown hgr (fun k hk => by cases hk)
          clear hHeld
          replace OB := Lib.hid (OBr.out.kept kr)
          replace HQ := Lib.hid (HQr.out.go kr (Ext.refl _ _))
          replace HR1 := Lib.hid (HR1r.out.go kr (Ext.refl _ _))
          replace HR2 := Lib.hid (HR2r.out.go kr (Ext.refl _ _))
          replace K := Kr.trans kr
          simp only [List.nil_append] at hap
          rw [HTK.out] at hap
          obtain ⟨A4, c4, rfl, _, _, _⟩ := own_form (V := []) hap (by simp)
          have H4 := Lib.hid hap
          replace OS := Lib.hid (OS.out.grown hgr (by simp [Value.ownBlock]))
          clear hap hgr hat
          refine hKK.out _ _ ?_ (fun hHeld => ?_)
          · exact kr
          clear hKK KK
          (try simp only [Act.put, List.setIfInBounds_toArray, List.set_cons_zero, List.set_cons_succ])
          refine wpAnyZ_ready (rs := [7]) (by kernel_rfl) (by simp) ?_
          refine AllReadyZ.cons (o := { dst := some 38, op := Op.call { callee := Callee.builtin Builtin.append, args := #[Operand.tmp 35, Operand.tmp 37], argTypes := #[27, 27] }, type := 27, pos := "ref.go:161", after := #[{ on := 4, ground := Ground.data }, { on := 6, ground := Ground.data }, { on := 4, ground := Ground.chain }], guard := none }) rfl (fun KK hKK => ?_) AllReadyZ.nil
          refine Try.elRb.step_app rfl _ _ rfl wc.heap.size (.slice A4 at_ c4) (qs.take at_) rfl (by rw [HTK.out]; exact H4.out) [] (some ⟨bS, 0, none⟩) 1 [(⟨bn, bl, bt, bml⟩, .slice MA mn mc)] rfl (OS.out.row (by simp)) (bxs_one _ (fun p hp => by rw [List.mem_singleton.1 hp]; exact ⟨_, _, _, rfl⟩)) (by rw [HTK.out]; unfold maxLen; simp <;> omega) (by rw [HTK.out]; simp <;> omega) kr.size ?_
          intro v7 wq4 hap hgr hat
          replace kr := kr.grown hgr (fun k hk => (ownBlock_of H4.out hk).1)
          clear hHeld
          replace OB := Lib.hid (OBr.out.kept kr)
          replace HQ := Lib.hid (HQr.out.go kr (Ext.refl _ _))
          replace HR1 := Lib.hid (HR1r.out.go kr (Ext.refl _ _))
          replace HR2 := Lib.hid (HR2r.out.go kr (Ext.refl _ _))
          replace K := Kr.trans kr
          rw [HLP.out] at hap
          obtain ⟨A7, c7, rfl, _, _, _⟩ := own_form (V := []) hap (by simp)
          have H7 := Lib.hid hap
          clear hap hgr hat
          refine hKK.out _ _ ?_ (fun hHeld => ?_)
          · exact kr
          clear hKK KK
          (try simp only [Act.put, List.setIfInBounds_toArray, List.set_cons_zero, List.set_cons_succ])
          refine wpAnyZ_ready (rs := [11]) (by kernel_rfl) (by simp) ?_
          refine AllReadyZ.cons (o := { dst := some 42, op := Op.call { callee := Callee.builtin Builtin.append, args := #[Operand.tmp 38, Operand.tmp 41], argTypes := #[27, 27] }, type := 27, pos := "ref.go:161", after := #[{ on := 7, ground := Ground.data }, { on := 10, ground := Ground.data }, { on := 7, ground := Ground.chain }], guard := none }) rfl (fun KK hKK => ?_) AllReadyZ.nil
          refine Try.elRb.step_app rfl _ _ rfl wc.heap.size (.slice A7 (at_ + 1) c7) (qs.take at_ ++ [(⟨bn, bl, bt, bml⟩, .slice MA mn mc)]) rfl (by rw [HLP.out]; exact H7.out) V _ _ (qs.drop at_) (by rw [HDK.out]; rfl) HR2.out HDF.out (by rw [HDK.out, HLP.out]; unfold maxLen; omega) (by rw [HDK.out, HLP.out]; omega) kr.size ?_
          intro v11 wq5 hap hgr hat
          replace kr := kr.grown hgr (fun k hk => (ownBlock_of H7.out hk).1)
          clear hHeld
          replace OB := Lib.hid (OBr.out.kept kr)
          replace HQ := Lib.hid (HQr.out.go kr (Ext.refl _ _))
          replace HR1 := Lib.hid (HR1r.out.go kr (Ext.refl _ _))
          replace HR2 := Lib.hid (HR2r.out.go kr (Ext.refl _ _))
          replace K := Kr.trans kr
          rw [HLK.out] at hap
          obtain ⟨A11, c11, rfl, _, _, _⟩ := own_form (V := []) hap (by simp)
          have H11 := Lib.hid hap
          clear hap hgr hat
          refine hKK.out _ _ ?_ (fun hHeld => ?_)
          · exact kr
          clear hKK KK
          (try simp only [Act.put, List.setIfInBounds_toArray, List.set_cons_zero, List.set_cons_succ])
          refine wpAnyZ_take (i := 12) (oi := { dst := some 7, op := Op.assign (Operand.tmp 42), type := 27, pos := "ref.go:161", after := #[{ on := 11, ground := Ground.data }, { on := 11, ground := Ground.chain }, { on := 0, ground := Ground.phase }, { on := 1, ground := Ground.phase }, { on := 2, ground := Ground.phase }, { on := 3, ground := Ground.phase }, { on := 4, ground := Ground.phase }, { on := 5, ground := Ground.phase }, { on := 6, ground := Ground.phase }, { on := 7, ground := Ground.phase }, { on := 8, ground := Ground.phase }, { on := 9, ground := Ground.phase }, { on := 10, ground := Ground.phase }, { on := 11, ground := Ground.phase }], guard := none }) (v := ?_) rfl (by kernel_rfl) (fun _ _ _ h => h) (Or.inl ⟨by rfl, ?_⟩) (by assumption) ?_
          rotate_left
          · (intro wz hSw; (try dsimp only at hSw); go_simp; (try with_reducible rfl))
          (try simp only [Act.put, List.setIfInBounds_toArray, List.set_cons_zero, List.set_cons_succ])
          refine wpAnyZ_done (by kernel_rfl) ?_ _
          clear CB0 CB1 CB2 CB3 OBr HQr HR1r HR2r Kr zr hHeld kr
          have HFIN : Hid (bxs (sortTo l (k + 1)) = bxs ((qs.take at_ ++ [((⟨bn, bl, bt, bml⟩ : Bx), Value.slice MA mn mc)]) ++ qs.drop at_)) := by
            show _ = _
            rw [HST.out, HBP.out, insP, HSL.out, HAT.out, List.append_assoc]
            rfl
          have HRES : Hid (Row V wq5 A11 (bxs (sortTo l (k + 1))) ∧ k + 1 ≤ c11 ∧ c11 ≤ 9223372036854775807) := by
            show _ ∧ _
            rw [HFIN.out]
            obtain ⟨A', c', e, e1, e2, e3⟩ := own_form (V := V) H11.out (fun j hj => Nat.lt_of_lt_of_le (HOV.out j hj) zw)
            cases e
            exact ⟨e3, e1, e2⟩
          clear HFIN H11 H7 H4 OS
          go_wp2
          go_roundw
          case rel => exact ⟨k + 1, A11, c11, by omega, by go_num, rfl, HRES.out.2.1, HRES.out.2.2, fun h => absurd h (by omega), HRES.out.1, K⟩
          case measure => simp [intOf]; omega
    · obtain rfl : k = n := by omega
      go_wp2
      go_ret
      exact ⟨A2, c2, by rw [HN.out]; rfl, by rw [HN.out]; exact hk2, by unfold maxLen; omega, by rw [HN.out]; exact HQ.out, K⟩
end Go.Proofs.Ytjinnkbnllnllaa
