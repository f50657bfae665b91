/- Walk: index.move. -/
import Derived.Test.YtjinnkbnllnllaaIxCreate
namespace Go.Proofs.Ytjinnkbnllnllaa
open Go.RowKit

theorem insPos_ge (l : List Bx) (nm : ByteArray) : 1 ≤ insPos l nm := by
  have : ∀ f a, a ≤ posFrom l nm f a := by
    intro f
    induction f with
    | zero => intro a; exact Nat.le_refl _
    | succ f ih =>
      intro a
      unfold posFrom
      split
      · exact Nat.le_trans (Nat.le_succ a) (ih (a + 1))
      · exact Nat.le_refl _
  exact this _ _
/-- The new mailbox of a move, and what INBOX is then. -/
def movBx (x : Ix) (nm : ByteArray) : Bx := ⟨nm, x.given, (bxAt x 0).next, (bxAt x 0).mails⟩
def movIx (x : Ix) (nm : ByteArray) : Ix := ⟨(insX x.boxes (movBx x nm)).set 0 (withMails (bxAt x 0) []), x.subs, x.given + 1⟩
def movR (x : Ix) (nm : ByteArray) : Ix × Int :=
  if decide (6 ≤ x.boxes.length) || decide (4294967295 ≤ x.given) then (ix0, 5) else (movIx x nm, 0)
theorem insX_len {l : List Bx} {b : Bx} (h : 1 ≤ l.length) : (insX l b).length = l.length + 1 := by
  unfold insX
  rw [List.length_append, List.length_cons, List.length_take, List.length_drop]
  have := insPos_le (nm := b.name) h
  omega
theorem insX_at {l : List Bx} {b : Bx} (h : 1 ≤ l.length) (i : Nat) : xAt (insX l b) i = if i < insPos l b.name then xAt l i else if i = insPos l b.name then b else xAt l (i - 1) := by
  have hp := insPos_le (nm := b.name) h
  unfold insX xAt
  simp only [List.getD]
  by_cases h1 : i < insPos l b.name
  · rw [if_pos h1, List.getElem?_append_left (by rw [List.length_take]; omega), List.getElem?_take, if_pos h1]
  · rw [if_neg h1, List.getElem?_append_right (by rw [List.length_take]; omega), List.length_take, Nat.min_eq_left hp]
    by_cases h2 : i = insPos l b.name
    · rw [if_pos h2, h2, Nat.sub_self]; rfl
    · rw [if_neg h2, show i - insPos l b.name = (i - 1 - insPos l b.name) + 1 by omega, List.getElem?_cons_succ, List.getElem?_drop, show insPos l b.name + (i - 1 - insPos l b.name) = i - 1 by omega]
theorem insX_set {l : List Bx} {b b' : Bx} (h : 1 ≤ l.length) (hn : b'.name = b.name) : (insX l b).set (insPos l b.name) b' = insX l b' := by
  have hp := insPos_le (nm := b.name) h
  unfold insX
  rw [hn, List.set_append_right _ _ (by rw [List.length_take]; omega), List.length_take, Nat.min_eq_left hp, Nat.sub_self, List.set_cons_zero]
theorem find_ins {x : Ix} {b : Bx} {s : List ByteArray} {g : Int} (h : 1 ≤ x.boxes.length) (hf : findX x b.name = none) : findX ⟨insX x.boxes b, s, g⟩ b.name = some (insPos x.boxes b.name) := by
  have hno := findTo_none_inv hf
  refine findTo_some ?_ (fun j hj => ?_) ?_
  · show nmEq (xAt (insX x.boxes b) _).name b.name = true
    rw [insX_at h, if_neg (Nat.lt_irrefl _), if_pos rfl]
    simp [nmEq]
  · show nmEq (xAt (insX x.boxes b) j).name b.name = false
    rw [insX_at h, if_pos hj]
    have := insPos_le (nm := b.name) h
    exact hno j (by omega)
  · show _ < (insX x.boxes b).length
    rw [insX_len h]
    have := insPos_le (nm := b.name) h
    omega
theorem getElem_xAt {ps : List Bp} {l : List Bx} (h : ps.map (·.1) = l) {i : Nat} (hi : i < ps.length) : ps[i].1 = xAt l i := by
  rw [← h, map_at]; simp [hi]
theorem mov_map {x : Ix} {nm : ByteArray} {a : Nat} {ps : List Bp} (hps : ps.map (·.1) = (insX x.boxes ⟨nm, x.given, 1, []⟩).set a (withMails ((insX x.boxes ⟨nm, x.given, 1, []⟩).getD a bx0) (bxAt x 0).mails)) (ha : insPos x.boxes nm = a) (h1 : 1 ≤ x.boxes.length) (hal : a < ps.length)
    (h0 : 0 < (ps.set a (⟨ps[a].1.name, ps[a].1.val, (bxAt x 0).next, ps[a].1.mails⟩, ps[a].2)).length) :
    ((ps.set a (⟨ps[a].1.name, ps[a].1.val, (bxAt x 0).next, ps[a].1.mails⟩, ps[a].2)).set 0 (withMails (ps.set a (⟨ps[a].1.name, ps[a].1.val, (bxAt x 0).next, ps[a].1.mails⟩, ps[a].2))[0].1 [], .slice none 0 0)).map (·.1) = (movIx x nm).boxes := by
  subst ha
  have e1 : ps.map (·.1) = insX x.boxes ⟨nm, x.given, 1, (bxAt x 0).mails⟩ := by
    have e : (insX x.boxes ⟨nm, x.given, 1, []⟩).getD (insPos x.boxes nm) bx0 = ⟨nm, x.given, 1, []⟩ := by
      have := insX_at (b := ⟨nm, x.given, 1, []⟩) h1 (insPos x.boxes nm)
      rw [if_neg (Nat.lt_irrefl _), if_pos rfl] at this
      exact this
    rw [hps, e]
    exact insX_set (b := ⟨nm, x.given, 1, []⟩) h1 rfl
  have e2 : ps[insPos x.boxes nm].1 = ⟨nm, x.given, 1, (bxAt x 0).mails⟩ := by
    rw [getElem_xAt e1 hal, insX_at h1, if_neg (Nat.lt_irrefl _), if_pos rfl]
  have e3 : (ps.set (insPos x.boxes nm) (⟨ps[insPos x.boxes nm].1.name, ps[insPos x.boxes nm].1.val, (bxAt x 0).next, ps[insPos x.boxes nm].1.mails⟩, ps[insPos x.boxes nm].2)).map (·.1) = insX x.boxes (movBx x nm) := by
    rw [List.map_set, e1]
    simp only [e2]
    exact insX_set (b := ⟨nm, x.given, 1, (bxAt x 0).mails⟩) (b' := movBx x nm) h1 rfl
  rw [List.map_set, e3]
  show (insX x.boxes (movBx x nm)).set 0 (withMails _ []) = _
  rw [getElem_xAt e3 h0, insX_at h1, if_pos (show 0 < insPos x.boxes (movBx x nm).name from insPos_ge _ _)]
  rfl
theorem bxs_nx {ps : List Bp} {k : Nat} (h : k < ps.length) (nx : Int) : (bxs ps).set (k * 4 + 2) (.int .i64 nx) = bxs (ps.set k (⟨ps[k].1.name, ps[k].1.val, nx, ps[k].1.mails⟩, ps[k].2)) :=
  (flat4_set bxc bxc_four ps k 2 (by omega) (⟨ps[k].1.name, ps[k].1.val, nx, ps[k].1.mails⟩, ps[k].2) (.int .i64 nx) h rfl).symm

set_option maxRecDepth 100000 in
set_option maxHeartbeats 1000000 in
theorem mov_no (V : List Nat) (x : Ix) (v : Value) (nm : ByteArray) (w : World) (hV : Old V w) (h : IxAt V w v x) (hok : IxOk x) (hr : rightB x = true) (hnb : nameB nm = true) (hns : nm.size ≤ maxLen) (hf : findX x nm = none) (h1n : 1 ≤ x.boxes.length) (hl : x.boxes.length ≤ 6) (hcr : creR x nm = (ix0, 5)) (hmv : movR x nm = (ix0, 5)) :
    Calls Try.prog 54 #[v, .string nm] w (IxPost V (movR x nm) w) := by
  have HEX : Hid (movR x nm = (ix0, 5)) := by
    show _ = _
    exact hmv
  have HV := Lib.hid h
  have HOV := Lib.hid hV
  have HOK := Lib.hid hok
  have HR := Lib.hid hr
  have HNB := Lib.hid hnb
  have HNS := Lib.hid hns
  have HF := Lib.hid hf
  have HCR := Lib.hid hcr
  obtain ⟨A, c, A', c', rfl, hc1, hc2, hc3, hc4, hbx, hrow⟩ := (h.weak (U := []) (fun _ hk => by cases hk)).open_
  obtain ⟨b, o, mv, rfl, hb, _, hbc⟩ := hbx (by omega)
  have HBC := Lib.hid hbc
  clear hbc
  have HROW := Lib.hid hrow
  clear hbx hrow h hok hV hr hnb hns hf hcr hmv
  unfold maxLen at hc2 hc4
  generalize hn : x.boxes.length = n at *
  generalize hm : x.subs.length = m at *
  generalize hg : x.given = gv at *
  have HN := Lib.hid hn
  have HM := Lib.hid hm
  have HG := Lib.hid hg
  clear hn hm hg
  go_enter Try.func54, Try.ntmps54
  go_upto_region 1 with fail
  have OX := Lib.hid ((Own.newAt w w.heap.size 25 [.slice (some ⟨b, o, none⟩) n c, .slice A' m c', .int .i64 gv] (by simp)).alloc (.cells #[.slice none 0 0, .slice none 0 0, .int .i64 0] 25))
  have OR := Lib.hid (Own.newAt (w.alloc (.cells #[.slice (some ⟨b, o, none⟩) n c, .slice A' m c', .int .i64 gv] 25)) (w.heap.size + 1) 25 [.slice none 0 0, .slice none 0 0, .int .i64 0] (by simp))
  have K := (((Kept.refl w).alloc (.cells #[.slice (some ⟨b, o, none⟩) n c, .slice A' m c', .int .i64 gv] 25)).alloc (.cells #[.slice none 0 0, .slice none 0 0, .int .i64 0] 25))
  generalize ((w.alloc (.cells #[.slice (some ⟨b, o, none⟩) n c, .slice A' m c', .int .i64 gv] 25)).alloc (.cells #[.slice none 0 0, .slice none 0 0, .int .i64 0] 25)) = w1 at *
  obtain ⟨cX0, cX1, cX2, fX0, fX1, fX2⟩ := OX.out.three
  obtain ⟨cR0, cR1, cR2, fR0, fR1, fR2⟩ := OR.out.three
  obtain ⟨_, _, g3, g4, gm⟩ := HBC.out.go hb K (Ext.refl _ _) 0 (by rw [HN.out]; omega)
  simp only [Nat.zero_mul, Nat.add_zero] at g3 g4
  have HAT : Hid (x.boxes[0]'(by rw [HN.out]; omega) = bxAt x 0) := (bxAt_lt _).symm
  rw [HAT.out] at g3 gm
  obtain ⟨MA, mcc, hmv⟩ := gm.form
  have HM0 : Hid (MlsAt V w (.slice MA (bxAt x 0).mails.length mcc) (bxAt x 0).mails) := by
    obtain ⟨A9, c9, e9, _, _, hb9⟩ := HV.out.parts.2.1.open_
    obtain ⟨b9, o9, mv9, e9', _, _, hbc9⟩ := hb9 (by rw [HN.out]; omega)
    simp only [Value.slice.injEq] at e9
    rw [← e9.1] at e9'
    cases e9'
    obtain ⟨_, _, _, q4, qm⟩ := hbc9 0 (by rw [HN.out]; omega)
    have q5 := (HBC.out 0 (by rw [HN.out]; omega)).2.2.2.1
    rw [q4, hmv] at q5
    injection q5 with q5
    rw [← q5]
    rw [HAT.out] at qm
    exact qm
  rw [hmv] at g4
  clear gm hmv
  have zb : b < w1.heap.size := Nat.lt_of_lt_of_le hb K.size
  have n00 : 0 < n := by omega
  clear cX0 cX1 cX2 fX0 fX1 fX2 cR0 cR1 cR2 fR0 fR1 fR2
  have CX0 : ∀ W', Kept w1 W' → W'.cell? ⟨w.heap.size, 0, none⟩ = some (.slice (some ⟨b, o, none⟩) n c) := fun W' hk => (OX.out.kept hk).cell? 0
  have CX1 : ∀ W', Kept w1 W' → W'.cell? ⟨w.heap.size, 1, none⟩ = some (.slice A' m c') := fun W' hk => (OX.out.kept hk).cell? 1
  have CX2 : ∀ W', Kept w1 W' → W'.cell? ⟨w.heap.size, 2, none⟩ = some (.int .i64 gv) := fun W' hk => (OX.out.kept hk).cell? 2
  have CR0 : ∀ W', Kept w1 W' → W'.cell? ⟨(w.heap.size + 1), 0, none⟩ = some (.slice none 0 0) := fun W' hk => (OR.out.kept hk).cell? 0
  have CR1 : ∀ W', Kept w1 W' → W'.cell? ⟨(w.heap.size + 1), 1, none⟩ = some (.slice none 0 0) := fun W' hk => (OR.out.kept hk).cell? 1
  have CR2 : ∀ W', Kept w1 W' → W'.cell? ⟨(w.heap.size + 1), 2, none⟩ = some (.int .i64 0) := fun W' hk => (OR.out.kept hk).cell? 2
  have C3 : ∀ W', Kept w1 W' → W'.cell? ⟨b, o + 2, none⟩ = some (.int .i64 (bxAt x 0).next) := fun W' hk => (hk.cell (p := ⟨b, o + 2, none⟩) zb).trans g3
  have C4 : ∀ W', Kept w1 W' → W'.cell? ⟨b, o + 3, none⟩ = some (.slice MA (bxAt x 0).mails.length mcc) := fun W' hk => (hk.cell (p := ⟨b, o + 3, none⟩) zb).trans g4
  refine wp_region_Z (S := fun W' => Kept w1 W') (Z := []) (by kernel_rfl) ((Kept.refl _).drew) (fun hHeld => ?_)
  have kr := (Kept.refl w1).drew
  have Kr := K
  have zr := K.size
  have OXr := OX
  have ORr := OR
  replace OX := Lib.hid (OXr.out.kept kr)
  replace OR := Lib.hid (ORr.out.kept kr)
  replace K := Kr.trans kr
  generalize w1.drew = w2 at *
  refine wpAnyZ_take (i := 0) (oi := { dst := some 10, op := Op.fieldAddr 25 (Operand.tmp 2) 0, type := 0, pos := "changes.go:83", after := #[], guard := none }) (v := ?_) rfl (by kernel_rfl) (fun _ _ _ h => h) (Or.inl ⟨by rfl, ?_⟩) (by assumption) ?_
  rotate_left
  · (intro wz hSw; (try dsimp only at hSw); go_simp; (try with_reducible rfl))
  (try simp only [Act.put, List.setIfInBounds_toArray, List.set_cons_zero, List.set_cons_succ])
  refine wpAnyZ_take (i := 1) (oi := { dst := some 11, op := Op.load 22 (Operand.tmp 10), type := 22, pos := "changes.go:83", after := #[{ on := 0, ground := Ground.data }], guard := none }) (v := ?_) rfl (by kernel_rfl) (fun _ _ _ h => h) (Or.inl ⟨by rfl, ?_⟩) (by assumption) ?_
  rotate_left
  · (intro wz hSw; (try dsimp only at hSw); go_simp; (try with_reducible rfl))
  (try simp only [Act.put, List.setIfInBounds_toArray, List.set_cons_zero, List.set_cons_succ])
  refine wpAnyZ_take (i := 2) (oi := { dst := some 12, op := Op.indexAddr 22 (Operand.tmp 11) (Operand.const (Value.int IntKind.i64 0)), type := 0, pos := "changes.go:83", after := #[{ on := 1, ground := Ground.data }], guard := none }) (v := ?_) rfl (by kernel_rfl) (fun _ _ _ h => h) (Or.inl ⟨by rfl, ?_⟩) (by assumption) ?_
  rotate_left
  · (intro wz hSw; (try dsimp only at hSw); go_simp; (try with_reducible rfl))
  (try simp only [Act.put, List.setIfInBounds_toArray, List.set_cons_zero, List.set_cons_succ])
  refine wpAnyZ_take (i := 3) (oi := { dst := some 13, op := Op.fieldAddr 40 (Operand.tmp 12) 3, type := 0, pos := "changes.go:83", after := #[{ on := 2, ground := Ground.data }], guard := none }) (v := ?_) rfl (by kernel_rfl) (fun _ _ _ h => h) (Or.inl ⟨by rfl, ?_⟩) (by assumption) ?_
  rotate_left
  · (intro wz hSw; (try dsimp only at hSw); go_simp; (try with_reducible rfl))
  (try simp only [Act.put, List.setIfInBounds_toArray, List.set_cons_zero, List.set_cons_succ])
  refine wpAnyZ_take (i := 4) (oi := { dst := some 14, op := Op.load 38 (Operand.tmp 13), type := 38, pos := "changes.go:83", after := #[{ on := 3, ground := Ground.data }], guard := none }) (v := ?_) rfl (by kernel_rfl) (fun _ _ _ h => h) (Or.inl ⟨by rfl, ?_⟩) (by assumption) ?_
  rotate_left
  · (intro wz hSw; (try dsimp only at hSw); go_simp; (try with_reducible rfl))
  (try simp only [Act.put, List.setIfInBounds_toArray, List.set_cons_zero, List.set_cons_succ])
  refine wpAnyZ_take (i := 5) (oi := { dst := some 15, op := Op.fieldAddr 25 (Operand.tmp 2) 0, type := 0, pos := "changes.go:83", after := #[{ on := 10, ground := Ground.gcOnly Departure.lateStores }], guard := none }) (v := ?_) rfl (by kernel_rfl) (fun _ _ _ h => h) (Or.inl ⟨by rfl, ?_⟩) (by assumption) ?_
  rotate_left
  · (intro wz hSw; (try dsimp only at hSw); go_simp; (try with_reducible rfl))
  (try simp only [Act.put, List.setIfInBounds_toArray, List.set_cons_zero, List.set_cons_succ])
  refine wpAnyZ_take (i := 6) (oi := { dst := some 16, op := Op.load 22 (Operand.tmp 15), type := 22, pos := "changes.go:83", after := #[{ on := 5, ground := Ground.data }, { on := 10, ground := Ground.gcOnly Departure.lateStores }], guard := none }) (v := ?_) rfl (by kernel_rfl) (fun _ _ _ h => h) (Or.inl ⟨by rfl, ?_⟩) (by assumption) ?_
  rotate_left
  · (intro wz hSw; (try dsimp only at hSw); go_simp; (try with_reducible rfl))
  (try simp only [Act.put, List.setIfInBounds_toArray, List.set_cons_zero, List.set_cons_succ])
  refine wpAnyZ_take (i := 7) (oi := { dst := some 17, op := Op.indexAddr 22 (Operand.tmp 16) (Operand.const (Value.int IntKind.i64 0)), type := 0, pos := "changes.go:83", after := #[{ on := 6, ground := Ground.data }, { on := 10, ground := Ground.gcOnly Departure.lateStores }], guard := none }) (v := ?_) rfl (by kernel_rfl) (fun _ _ _ h => h) (Or.inl ⟨by rfl, ?_⟩) (by assumption) ?_
  rotate_left
  · (intro wz hSw; (try dsimp only at hSw); go_simp; (try with_reducible rfl))
  (try simp only [Act.put, List.setIfInBounds_toArray, List.set_cons_zero, List.set_cons_succ])
  refine wpAnyZ_take (i := 8) (oi := { dst := some 18, op := Op.fieldAddr 40 (Operand.tmp 17) 2, type := 0, pos := "changes.go:83", after := #[{ on := 7, ground := Ground.data }, { on := 10, ground := Ground.gcOnly Departure.lateStores }], guard := none }) (v := ?_) rfl (by kernel_rfl) (fun _ _ _ h => h) (Or.inl ⟨by rfl, ?_⟩) (by assumption) ?_
  rotate_left
  · (intro wz hSw; (try dsimp only at hSw); go_simp; (try with_reducible rfl))
  (try simp only [Act.put, List.setIfInBounds_toArray, List.set_cons_zero, List.set_cons_succ])
  refine wpAnyZ_take (i := 9) (oi := { dst := some 19, op := Op.load 3 (Operand.tmp 18), type := 3, pos := "changes.go:83", after := #[{ on := 8, ground := Ground.data }, { on := 10, ground := Ground.gcOnly Departure.lateStores }], guard := none }) (v := ?_) rfl (by kernel_rfl) (fun _ _ _ h => h) (Or.inl ⟨by rfl, ?_⟩) (by assumption) ?_
  rotate_left
  · (intro wz hSw; (try dsimp only at hSw); go_simp; (try with_reducible rfl))
  (try simp only [Act.put, List.setIfInBounds_toArray, List.set_cons_zero, List.set_cons_succ])
  refine wpAnyZ_take (i := 10) (oi := { dst := some 6, op := Op.assign (Operand.tmp 14), type := 38, pos := "changes.go:83", after := #[{ on := 4, ground := Ground.data }, { on := 0, ground := Ground.phase }, { on := 1, ground := Ground.phase }, { on := 2, ground := Ground.phase }, { on := 3, ground := Ground.phase }, { on := 4, ground := Ground.phase }, { on := 5, ground := Ground.textOnly Departure.lateStores }, { on := 6, ground := Ground.textOnly Departure.lateStores }, { on := 7, ground := Ground.textOnly Departure.lateStores }, { on := 8, ground := Ground.textOnly Departure.lateStores }, { on := 9, ground := Ground.textOnly Departure.lateStores }], guard := none }) (v := ?_) rfl (by kernel_rfl) (fun _ _ _ h => h) (Or.inl ⟨by rfl, ?_⟩) (by assumption) ?_
  rotate_left
  · (intro wz hSw; (try dsimp only at hSw); go_simp; (try with_reducible rfl))
  (try simp only [Act.put, List.setIfInBounds_toArray, List.set_cons_zero, List.set_cons_succ])
  refine wpAnyZ_take (i := 11) (oi := { dst := some 7, op := Op.assign (Operand.tmp 19), type := 3, pos := "changes.go:83", after := #[{ on := 9, ground := Ground.data }, { on := 10, ground := Ground.chain }, { on := 0, ground := Ground.phase }, { on := 1, ground := Ground.phase }, { on := 2, ground := Ground.phase }, { on := 3, ground := Ground.phase }, { on := 4, ground := Ground.phase }, { on := 5, ground := Ground.phase }, { on := 6, ground := Ground.phase }, { on := 7, ground := Ground.phase }, { on := 8, ground := Ground.phase }, { on := 9, ground := Ground.phase }, { on := 10, ground := Ground.phase }], guard := none }) (v := ?_) rfl (by kernel_rfl) (fun _ _ _ h => h) (Or.inl ⟨by rfl, ?_⟩) (by assumption) ?_
  rotate_left
  · (intro wz hSw; (try dsimp only at hSw); go_simp; (try with_reducible rfl))
  (try simp only [Act.put, List.setIfInBounds_toArray, List.set_cons_zero, List.set_cons_succ])
  refine wpAnyZ_done (by kernel_rfl) ?_ _
  clear CX0 CX1 CX2 CR0 CR1 CR2 C3 C4 OXr ORr Kr zr hHeld kr
  clear g3 g4
  obtain ⟨cX0, cX1, cX2, fX0, fX1, fX2⟩ := OX.out.three
  obtain ⟨cR0, cR1, cR2, fR0, fR1, fR2⟩ := OR.out.three
  go_wp2_with fail
  have zX2 := OX.out.lt
  have zR2 := OR.out.lt
  have zK2 := K.size
  refine (cre_any (w.heap.size :: (w.heap.size + 1) :: V) x _ nm _ (Old.cons OX.out.lt (Old.cons OR.out.lt (HOV.out.go K))) (HV.out.go K (Ext.cons (Nat.le_refl _) (Ext.cons (by omega) (Ext.refl _ _)))) HOK.out HNS.out).mono ?_
  rintro e w3 ⟨v2, rfl, hx2, hk⟩
  clear cX0 cX1 cX2 fX0 fX1 fX2 cR0 cR1 cR2 fR0 fR1 fR2
  replace OX := Lib.hid (OX.out.kept hk)
  replace OR := Lib.hid (OR.out.kept hk)
  replace K := K.trans hk
  rw [HCR.out] at hx2 ⊢
  dsimp only at hx2 ⊢
  obtain ⟨A2, c2, A3, c3, rfl⟩ := hx2.form
  simp only [show ix0.boxes.length = 0 from rfl, show ix0.subs.length = 0 from rfl, show ix0.given = 0 from rfl]
  clear hx2
  clear hk
  obtain ⟨cX0, cX1, cX2, fX0, fX1, fX2⟩ := OX.out.three
  obtain ⟨cR0, cR1, cR2, fR0, fR1, fR2⟩ := OR.out.three
  go_wp2
  clear cX0 cX1 cX2 fX0 fX1 fX2 cR0 cR1 cR2 fR0 fR1 fR2
  replace OX : Hid (Own (((w3.setCell ⟨w.heap.size, 0, none⟩ (.slice A2 0 c2)).setCell ⟨w.heap.size, 1, none⟩ (.slice A3 0 c3)).setCell ⟨w.heap.size, 2, none⟩ (.int .i64 0)) w.heap.size 25 [.slice A2 0 c2, .slice A3 0 c3, .int .i64 0]) := Lib.hid (((OX.out.set_ 0 (.slice A2 0 c2)).set_ 1 (.slice A3 0 c3)).set_ 2 (.int .i64 0))
  replace OR : Hid (Own (((w3.setCell ⟨w.heap.size, 0, none⟩ (.slice A2 0 c2)).setCell ⟨w.heap.size, 1, none⟩ (.slice A3 0 c3)).setCell ⟨w.heap.size, 2, none⟩ (.int .i64 0)) (w.heap.size + 1) 25 [.slice none 0 0, .slice none 0 0, .int .i64 0]) := Lib.hid (((OR.out.far (p := ⟨w.heap.size, 0, none⟩) (by first | omega | (simp; omega) | simp) (.slice A2 0 c2)).far (p := ⟨w.heap.size, 1, none⟩) (by first | omega | (simp; omega) | simp) (.slice A3 0 c3)).far (p := ⟨w.heap.size, 2, none⟩) (by first | omega | (simp; omega) | simp) (.int .i64 0))
  replace K := (((K.setCell (p := ⟨w.heap.size, 0, none⟩) (by first | exact Nat.le_refl _ | (simp only []; omega) | simp) (.slice A2 0 c2)).setCell (p := ⟨w.heap.size, 1, none⟩) (by first | exact Nat.le_refl _ | (simp only []; omega) | simp) (.slice A3 0 c3)).setCell (p := ⟨w.heap.size, 2, none⟩) (by first | exact Nat.le_refl _ | (simp only []; omega) | simp) (.int .i64 0))
  generalize (((w3.setCell ⟨w.heap.size, 0, none⟩ (.slice A2 0 c2)).setCell ⟨w.heap.size, 1, none⟩ (.slice A3 0 c3)).setCell ⟨w.heap.size, 2, none⟩ (.int .i64 0)) = w4 at *
  replace OX : Hid (Own (((w4.setCell ⟨(w.heap.size + 1), 0, none⟩ (.slice none 0 0)).setCell ⟨(w.heap.size + 1), 1, none⟩ (.slice none 0 0)).setCell ⟨(w.heap.size + 1), 2, none⟩ (.int .i64 0)) w.heap.size 25 [.slice A2 0 c2, .slice A3 0 c3, .int .i64 0]) := Lib.hid (((OX.out.far (p := ⟨(w.heap.size + 1), 0, none⟩) (by first | omega | (simp; omega) | simp) (.slice none 0 0)).far (p := ⟨(w.heap.size + 1), 1, none⟩) (by first | omega | (simp; omega) | simp) (.slice none 0 0)).far (p := ⟨(w.heap.size + 1), 2, none⟩) (by first | omega | (simp; omega) | simp) (.int .i64 0))
  replace OR : Hid (Own (((w4.setCell ⟨(w.heap.size + 1), 0, none⟩ (.slice none 0 0)).setCell ⟨(w.heap.size + 1), 1, none⟩ (.slice none 0 0)).setCell ⟨(w.heap.size + 1), 2, none⟩ (.int .i64 0)) (w.heap.size + 1) 25 [.slice none 0 0, .slice none 0 0, .int .i64 0]) := Lib.hid (((OR.out.set_ 0 (.slice none 0 0)).set_ 1 (.slice none 0 0)).set_ 2 (.int .i64 0))
  replace K := (((K.setCell (p := ⟨(w.heap.size + 1), 0, none⟩) (by first | exact Nat.le_refl _ | (simp only []; omega) | simp) (.slice none 0 0)).setCell (p := ⟨(w.heap.size + 1), 1, none⟩) (by first | exact Nat.le_refl _ | (simp only []; omega) | simp) (.slice none 0 0)).setCell (p := ⟨(w.heap.size + 1), 2, none⟩) (by first | exact Nat.le_refl _ | (simp only []; omega) | simp) (.int .i64 0))
  generalize (((w4.setCell ⟨(w.heap.size + 1), 0, none⟩ (.slice none 0 0)).setCell ⟨(w.heap.size + 1), 1, none⟩ (.slice none 0 0)).setCell ⟨(w.heap.size + 1), 2, none⟩ (.int .i64 0)) = w5 at *
  obtain ⟨cX0, cX1, cX2, fX0, fX1, fX2⟩ := OX.out.three
  obtain ⟨cR0, cR1, cR2, fR0, fR1, fR2⟩ := OR.out.three
  refine bodyPost_ret (v := .tuple #[.agg #[.slice none 0 0, .slice none 0 0, .int .i64 0], .int .i64 5]) (by simp [results, Try.results54, go_sem, cR0, cR1, cR2]) rfl ?_
  exact ⟨_, by rw [HEX.out], by rw [HEX.out]; exact ixAt_nil _ _, K⟩

set_option maxRecDepth 100000 in
set_option maxHeartbeats 1000000 in
theorem mov_main (V : List Nat) (x : Ix) (v : Value) (nm : ByteArray) (w : World) (hV : Old V w) (h : IxAt V w v x) (hok : IxOk x) (hr : rightB x = true) (hnb : nameB nm = true) (hns : nm.size ≤ maxLen) (hf : findX x nm = none) (h1n : 1 ≤ x.boxes.length) (hl : x.boxes.length ≤ 6) (hcr : creR x nm = (⟨insX x.boxes ⟨nm, x.given, 1, []⟩, x.subs, x.given + 1⟩, 0)) (hmv : movR x nm = (movIx x nm, 0)) (hg1 : 1 ≤ x.given) (hgg : ¬ 4294967295 ≤ x.given) :
    Calls Try.prog 54 #[v, .string nm] w (IxPost V (movR x nm) w) := by
  have HEX : Hid (movR x nm = (movIx x nm, 0)) := by
    show _ = _
    exact hmv
  have HV := Lib.hid h
  have HOV := Lib.hid hV
  have HOK := Lib.hid hok
  have HR := Lib.hid hr
  have HNB := Lib.hid hnb
  have HNS := Lib.hid hns
  have HF := Lib.hid hf
  have HCR := Lib.hid hcr
  obtain ⟨A, c, A', c', rfl, hc1, hc2, hc3, hc4, hbx, hrow⟩ := (h.weak (U := []) (fun _ hk => by cases hk)).open_
  obtain ⟨b, o, mv, rfl, hb, _, hbc⟩ := hbx (by omega)
  have HBC := Lib.hid hbc
  clear hbc
  have HROW := Lib.hid hrow
  clear hbx hrow h hok hV hr hnb hns hf hcr hmv
  unfold maxLen at hc2 hc4
  generalize hn : x.boxes.length = n at *
  generalize hm : x.subs.length = m at *
  generalize hg : x.given = gv at *
  have HN := Lib.hid hn
  have HM := Lib.hid hm
  have HG := Lib.hid hg
  clear hn hm hg
  go_enter Try.func54, Try.ntmps54
  go_upto_region 1 with fail
  have OX := Lib.hid ((Own.newAt w w.heap.size 25 [.slice (some ⟨b, o, none⟩) n c, .slice A' m c', .int .i64 gv] (by simp)).alloc (.cells #[.slice none 0 0, .slice none 0 0, .int .i64 0] 25))
  have OR := Lib.hid (Own.newAt (w.alloc (.cells #[.slice (some ⟨b, o, none⟩) n c, .slice A' m c', .int .i64 gv] 25)) (w.heap.size + 1) 25 [.slice none 0 0, .slice none 0 0, .int .i64 0] (by simp))
  have K := (((Kept.refl w).alloc (.cells #[.slice (some ⟨b, o, none⟩) n c, .slice A' m c', .int .i64 gv] 25)).alloc (.cells #[.slice none 0 0, .slice none 0 0, .int .i64 0] 25))
  generalize ((w.alloc (.cells #[.slice (some ⟨b, o, none⟩) n c, .slice A' m c', .int .i64 gv] 25)).alloc (.cells #[.slice none 0 0, .slice none 0 0, .int .i64 0] 25)) = w1 at *
  obtain ⟨cX0, cX1, cX2, fX0, fX1, fX2⟩ := OX.out.three
  obtain ⟨cR0, cR1, cR2, fR0, fR1, fR2⟩ := OR.out.three
  obtain ⟨_, _, g3, g4, gm⟩ := HBC.out.go hb K (Ext.refl _ _) 0 (by rw [HN.out]; omega)
  simp only [Nat.zero_mul, Nat.add_zero] at g3 g4
  have HAT : Hid (x.boxes[0]'(by rw [HN.out]; omega) = bxAt x 0) := (bxAt_lt _).symm
  rw [HAT.out] at g3 gm
  obtain ⟨MA, mcc, hmv⟩ := gm.form
  have HM0 : Hid (MlsAt V w (.slice MA (bxAt x 0).mails.length mcc) (bxAt x 0).mails) := by
    obtain ⟨A9, c9, e9, _, _, hb9⟩ := HV.out.parts.2.1.open_
    obtain ⟨b9, o9, mv9, e9', _, _, hbc9⟩ := hb9 (by rw [HN.out]; omega)
    simp only [Value.slice.injEq] at e9
    rw [← e9.1] at e9'
    cases e9'
    obtain ⟨_, _, _, q4, qm⟩ := hbc9 0 (by rw [HN.out]; omega)
    have q5 := (HBC.out 0 (by rw [HN.out]; omega)).2.2.2.1
    rw [q4, hmv] at q5
    injection q5 with q5
    rw [← q5]
    rw [HAT.out] at qm
    exact qm
  rw [hmv] at g4
  clear gm hmv
  have zb : b < w1.heap.size := Nat.lt_of_lt_of_le hb K.size
  have n00 : 0 < n := by omega
  clear cX0 cX1 cX2 fX0 fX1 fX2 cR0 cR1 cR2 fR0 fR1 fR2
  have CX0 : ∀ W', Kept w1 W' → W'.cell? ⟨w.heap.size, 0, none⟩ = some (.slice (some ⟨b, o, none⟩) n c) := fun W' hk => (OX.out.kept hk).cell? 0
  have CX1 : ∀ W', Kept w1 W' → W'.cell? ⟨w.heap.size, 1, none⟩ = some (.slice A' m c') := fun W' hk => (OX.out.kept hk).cell? 1
  have CX2 : ∀ W', Kept w1 W' → W'.cell? ⟨w.heap.size, 2, none⟩ = some (.int .i64 gv) := fun W' hk => (OX.out.kept hk).cell? 2
  have CR0 : ∀ W', Kept w1 W' → W'.cell? ⟨(w.heap.size + 1), 0, none⟩ = some (.slice none 0 0) := fun W' hk => (OR.out.kept hk).cell? 0
  have CR1 : ∀ W', Kept w1 W' → W'.cell? ⟨(w.heap.size + 1), 1, none⟩ = some (.slice none 0 0) := fun W' hk => (OR.out.kept hk).cell? 1
  have CR2 : ∀ W', Kept w1 W' → W'.cell? ⟨(w.heap.size + 1), 2, none⟩ = some (.int .i64 0) := fun W' hk => (OR.out.kept hk).cell? 2
  have C3 : ∀ W', Kept w1 W' → W'.cell? ⟨b, o + 2, none⟩ = some (.int .i64 (bxAt x 0).next) := fun W' hk => (hk.cell (p := ⟨b, o + 2, none⟩) zb).trans g3
  have C4 : ∀ W', Kept w1 W' → W'.cell? ⟨b, o + 3, none⟩ = some (.slice MA (bxAt x 0).mails.length mcc) := fun W' hk => (hk.cell (p := ⟨b, o + 3, none⟩) zb).trans g4
  refine wp_region_Z (S := fun W' => Kept w1 W') (Z := []) (by kernel_rfl) ((Kept.refl _).drew) (fun hHeld => ?_)
  have kr := (Kept.refl w1).drew
  have Kr := K
  have zr := K.size
  have OXr := OX
  have ORr := OR
  replace OX := Lib.hid (OXr.out.kept kr)
  replace OR := Lib.hid (ORr.out.kept kr)
  replace K := Kr.trans kr
  generalize w1.drew = w2 at *
  refine wpAnyZ_take (i := 0) (oi := { dst := some 10, op := Op.fieldAddr 25 (Operand.tmp 2) 0, type := 0, pos := "changes.go:83", after := #[], guard := none }) (v := ?_) rfl (by kernel_rfl) (fun _ _ _ h => h) (Or.inl ⟨by rfl, ?_⟩) (by assumption) ?_
  rotate_left
  · (intro wz hSw; (try dsimp only at hSw); go_simp; (try with_reducible rfl))
  (try simp only [Act.put, List.setIfInBounds_toArray, List.set_cons_zero, List.set_cons_succ])
  refine wpAnyZ_take (i := 1) (oi := { dst := some 11, op := Op.load 22 (Operand.tmp 10), type := 22, pos := "changes.go:83", after := #[{ on := 0, ground := Ground.data }], guard := none }) (v := ?_) rfl (by kernel_rfl) (fun _ _ _ h => h) (Or.inl ⟨by rfl, ?_⟩) (by assumption) ?_
  rotate_left
  · (intro wz hSw; (try dsimp only at hSw); go_simp; (try with_reducible rfl))
  (try simp only [Act.put, List.setIfInBounds_toArray, List.set_cons_zero, List.set_cons_succ])
  refine wpAnyZ_take (i := 2) (oi := { dst := some 12, op := Op.indexAddr 22 (Operand.tmp 11) (Operand.const (Value.int IntKind.i64 0)), type := 0, pos := "changes.go:83", after := #[{ on := 1, ground := Ground.data }], guard := none }) (v := ?_) rfl (by kernel_rfl) (fun _ _ _ h => h) (Or.inl ⟨by rfl, ?_⟩) (by assumption) ?_
  rotate_left
  · (intro wz hSw; (try dsimp only at hSw); go_simp; (try with_reducible rfl))
  (try simp only [Act.put, List.setIfInBounds_toArray, List.set_cons_zero, List.set_cons_succ])
  refine wpAnyZ_take (i := 3) (oi := { dst := some 13, op := Op.fieldAddr 40 (Operand.tmp 12) 3, type := 0, pos := "changes.go:83", after := #[{ on := 2, ground := Ground.data }], guard := none }) (v := ?_) rfl (by kernel_rfl) (fun _ _ _ h => h) (Or.inl ⟨by rfl, ?_⟩) (by assumption) ?_
  rotate_left
  · (intro wz hSw; (try dsimp only at hSw); go_simp; (try with_reducible rfl))
  (try simp only [Act.put, List.setIfInBounds_toArray, List.set_cons_zero, List.set_cons_succ])
  refine wpAnyZ_take (i := 4) (oi := { dst := some 14, op := Op.load 38 (Operand.tmp 13), type := 38, pos := "changes.go:83", after := #[{ on := 3, ground := Ground.data }], guard := none }) (v := ?_) rfl (by kernel_rfl) (fun _ _ _ h => h) (Or.inl ⟨by rfl, ?_⟩) (by assumption) ?_
  rotate_left
  · (intro wz hSw; (try dsimp only at hSw); go_simp; (try with_reducible rfl))
  (try simp only [Act.put, List.setIfInBounds_toArray, List.set_cons_zero, List.set_cons_succ])
  refine wpAnyZ_take (i := 5) (oi := { dst := some 15, op := Op.fieldAddr 25 (Operand.tmp 2) 0, type := 0, pos := "changes.go:83", after := #[{ on := 10, ground := Ground.gcOnly Departure.lateStores }], guard := none }) (v := ?_) rfl (by kernel_rfl) (fun _ _ _ h => h) (Or.inl ⟨by rfl, ?_⟩) (by assumption) ?_
  rotate_left
  · (intro wz hSw; (try dsimp only at hSw); go_simp; (try with_reducible rfl))
  (try simp only [Act.put, List.setIfInBounds_toArray, List.set_cons_zero, List.set_cons_succ])
  refine wpAnyZ_take (i := 6) (oi := { dst := some 16, op := Op.load 22 (Operand.tmp 15), type := 22, pos := "changes.go:83", after := #[{ on := 5, ground := Ground.data }, { on := 10, ground := Ground.gcOnly Departure.lateStores }], guard := none }) (v := ?_) rfl (by kernel_rfl) (fun _ _ _ h => h) (Or.inl ⟨by rfl, ?_⟩) (by assumption) ?_
  rotate_left
  · (intro wz hSw; (try dsimp only at hSw); go_simp; (try with_reducible rfl))
  (try simp only [Act.put, List.setIfInBounds_toArray, List.set_cons_zero, List.set_cons_succ])
  refine wpAnyZ_take (i := 7) (oi := { dst := some 17, op := Op.indexAddr 22 (Operand.tmp 16) (Operand.const (Value.int IntKind.i64 0)), type := 0, pos := "changes.go:83", after := #[{ on := 6, ground := Ground.data }, { on := 10, ground := Ground.gcOnly Departure.lateStores }], guard := none }) (v := ?_) rfl (by kernel_rfl) (fun _ _ _ h => h) (Or.inl ⟨by rfl, ?_⟩) (by assumption) ?_
  rotate_left
  · (intro wz hSw; (try dsimp only at hSw); go_simp; (try with_reducible rfl))
  (try simp only [Act.put, List.setIfInBounds_toArray, List.set_cons_zero, List.set_cons_succ])
  refine wpAnyZ_take (i := 8) (oi := { dst := some 18, op := Op.fieldAddr 40 (Operand.tmp 17) 2, type := 0, pos := "changes.go:83", after := #[{ on := 7, ground := Ground.data }, { on := 10, ground := Ground.gcOnly Departure.lateStores }], guard := none }) (v := ?_) rfl (by kernel_rfl) (fun _ _ _ h => h) (Or.inl ⟨by rfl, ?_⟩) (by assumption) ?_
  rotate_left
  · (intro wz hSw; (try dsimp only at hSw); go_simp; (try with_reducible rfl))
  (try simp only [Act.put, List.setIfInBounds_toArray, List.set_cons_zero, List.set_cons_succ])
  refine wpAnyZ_take (i := 9) (oi := { dst := some 19, op := Op.load 3 (Operand.tmp 18), type := 3, pos := "changes.go:83", after := #[{ on := 8, ground := Ground.data }, { on := 10, ground := Ground.gcOnly Departure.lateStores }], guard := none }) (v := ?_) rfl (by kernel_rfl) (fun _ _ _ h => h) (Or.inl ⟨by rfl, ?_⟩) (by assumption) ?_
  rotate_left
  · (intro wz hSw; (try dsimp only at hSw); go_simp; (try with_reducible rfl))
  (try simp only [Act.put, List.setIfInBounds_toArray, List.set_cons_zero, List.set_cons_succ])
  refine wpAnyZ_take (i := 10) (oi := { dst := some 6, op := Op.assign (Operand.tmp 14), type := 38, pos := "changes.go:83", after := #[{ on := 4, ground := Ground.data }, { on := 0, ground := Ground.phase }, { on := 1, ground := Ground.phase }, { on := 2, ground := Ground.phase }, { on := 3, ground := Ground.phase }, { on := 4, ground := Ground.phase }, { on := 5, ground := Ground.textOnly Departure.lateStores }, { on := 6, ground := Ground.textOnly Departure.lateStores }, { on := 7, ground := Ground.textOnly Departure.lateStores }, { on := 8, ground := Ground.textOnly Departure.lateStores }, { on := 9, ground := Ground.textOnly Departure.lateStores }], guard := none }) (v := ?_) rfl (by kernel_rfl) (fun _ _ _ h => h) (Or.inl ⟨by rfl, ?_⟩) (by assumption) ?_
  rotate_left
  · (intro wz hSw; (try dsimp only at hSw); go_simp; (try with_reducible rfl))
  (try simp only [Act.put, List.setIfInBounds_toArray, List.set_cons_zero, List.set_cons_succ])
  refine wpAnyZ_take (i := 11) (oi := { dst := some 7, op := Op.assign (Operand.tmp 19), type := 3, pos := "changes.go:83", after := #[{ on := 9, ground := Ground.data }, { on := 10, ground := Ground.chain }, { on := 0, ground := Ground.phase }, { on := 1, ground := Ground.phase }, { on := 2, ground := Ground.phase }, { on := 3, ground := Ground.phase }, { on := 4, ground := Ground.phase }, { on := 5, ground := Ground.phase }, { on := 6, ground := Ground.phase }, { on := 7, ground := Ground.phase }, { on := 8, ground := Ground.phase }, { on := 9, ground := Ground.phase }, { on := 10, ground := Ground.phase }], guard := none }) (v := ?_) rfl (by kernel_rfl) (fun _ _ _ h => h) (Or.inl ⟨by rfl, ?_⟩) (by assumption) ?_
  rotate_left
  · (intro wz hSw; (try dsimp only at hSw); go_simp; (try with_reducible rfl))
  (try simp only [Act.put, List.setIfInBounds_toArray, List.set_cons_zero, List.set_cons_succ])
  refine wpAnyZ_done (by kernel_rfl) ?_ _
  clear CX0 CX1 CX2 CR0 CR1 CR2 C3 C4 OXr ORr Kr zr hHeld kr
  clear g3 g4
  obtain ⟨cX0, cX1, cX2, fX0, fX1, fX2⟩ := OX.out.three
  obtain ⟨cR0, cR1, cR2, fR0, fR1, fR2⟩ := OR.out.three
  go_wp2_with fail
  have zX2 := OX.out.lt
  have zR2 := OR.out.lt
  have zK2 := K.size
  refine (cre_any (w.heap.size :: (w.heap.size + 1) :: V) x _ nm _ (Old.cons OX.out.lt (Old.cons OR.out.lt (HOV.out.go K))) (HV.out.go K (Ext.cons (Nat.le_refl _) (Ext.cons (by omega) (Ext.refl _ _)))) HOK.out HNS.out).mono ?_
  rintro e w3 ⟨v2, rfl, hx2, hk⟩
  clear cX0 cX1 cX2 fX0 fX1 fX2 cR0 cR1 cR2 fR0 fR1 fR2
  replace OX := Lib.hid (OX.out.kept hk)
  replace OR := Lib.hid (OR.out.kept hk)
  replace K := K.trans hk
  rw [HCR.out] at hx2 ⊢
  dsimp only at hx2 ⊢
  obtain ⟨A2, c2, A3, c3, rfl⟩ := hx2.form
  have HX2 := Lib.hid hx2
  clear hx2
  have HYL : Hid ((insX x.boxes ⟨nm, gv, 1, []⟩).length = n + 1) := by show _ = _; rw [insX_len (by rw [HN.out]; exact h1n), HN.out]
  dsimp only at HX2 ⊢
  rw [HYL.out, HM.out] at HX2
  rw [HYL.out, HM.out]
  clear hk
  obtain ⟨cX0, cX1, cX2, fX0, fX1, fX2⟩ := OX.out.three
  obtain ⟨cR0, cR1, cR2, fR0, fR1, fR2⟩ := OR.out.three
  go_wp2_with fail
  clear cX0 cX1 cX2 fX0 fX1 fX2 cR0 cR1 cR2 fR0 fR1 fR2
  replace OX : Hid (Own (((w3.setCell ⟨w.heap.size, 0, none⟩ (.slice A2 (n + 1) c2)).setCell ⟨w.heap.size, 1, none⟩ (.slice A3 m c3)).setCell ⟨w.heap.size, 2, none⟩ (.int .i64 (gv + 1))) w.heap.size 25 [.slice A2 (n + 1) c2, .slice A3 m c3, .int .i64 (gv + 1)]) := Lib.hid (((OX.out.set_ 0 (.slice A2 (n + 1) c2)).set_ 1 (.slice A3 m c3)).set_ 2 (.int .i64 (gv + 1)))
  replace OR : Hid (Own (((w3.setCell ⟨w.heap.size, 0, none⟩ (.slice A2 (n + 1) c2)).setCell ⟨w.heap.size, 1, none⟩ (.slice A3 m c3)).setCell ⟨w.heap.size, 2, none⟩ (.int .i64 (gv + 1))) (w.heap.size + 1) 25 [.slice none 0 0, .slice none 0 0, .int .i64 0]) := Lib.hid (((OR.out.far (p := ⟨w.heap.size, 0, none⟩) (by first | omega | (simp; omega) | simp) (.slice A2 (n + 1) c2)).far (p := ⟨w.heap.size, 1, none⟩) (by first | omega | (simp; omega) | simp) (.slice A3 m c3)).far (p := ⟨w.heap.size, 2, none⟩) (by first | omega | (simp; omega) | simp) (.int .i64 (gv + 1)))
  replace HX2 := Lib.hid (((HX2.out.put (p := ⟨w.heap.size, 0, none⟩) (by simp) (.slice A2 (n + 1) c2)).put (p := ⟨w.heap.size, 1, none⟩) (by simp) (.slice A3 m c3)).put (p := ⟨w.heap.size, 2, none⟩) (by simp) (.int .i64 (gv + 1)))
  replace K := (((K.setCell (p := ⟨w.heap.size, 0, none⟩) (by first | exact Nat.le_refl _ | (simp only []; omega) | simp) (.slice A2 (n + 1) c2)).setCell (p := ⟨w.heap.size, 1, none⟩) (by first | exact Nat.le_refl _ | (simp only []; omega) | simp) (.slice A3 m c3)).setCell (p := ⟨w.heap.size, 2, none⟩) (by first | exact Nat.le_refl _ | (simp only []; omega) | simp) (.int .i64 (gv + 1)))
  generalize (((w3.setCell ⟨w.heap.size, 0, none⟩ (.slice A2 (n + 1) c2)).setCell ⟨w.heap.size, 1, none⟩ (.slice A3 m c3)).setCell ⟨w.heap.size, 2, none⟩ (.int .i64 (gv + 1))) = w4 at *
  obtain ⟨cX0, cX1, cX2, fX0, fX1, fX2⟩ := OX.out.three
  obtain ⟨cR0, cR1, cR2, fR0, fR1, fR2⟩ := OR.out.three
  have HFY : Hid (findX ⟨insX x.boxes ⟨nm, gv, 1, []⟩, x.subs, gv + 1⟩ nm = some (insPos x.boxes nm)) := find_ins (b := ⟨nm, gv, 1, []⟩) (by rw [HN.out]; exact h1n) HF.out
  have hpl : insPos x.boxes nm ≤ n := by have := insPos_le (l := x.boxes) (nm := nm) (by rw [HN.out]; exact h1n); rwa [HN.out] at this
  have hpg := insPos_ge x.boxes nm
  refine (find_any ⟨insX x.boxes ⟨nm, gv, 1, []⟩, x.subs, gv + 1⟩ _ nm _ (HX2.out.go (Kept.refl _) (Ext.nil _ _))).mono ?_
  rintro e w5 ⟨rfl, hk⟩
  clear cX0 cX1 cX2 fX0 fX1 fX2 cR0 cR1 cR2 fR0 fR1 fR2
  replace OX := Lib.hid (OX.out.kept hk)
  replace OR := Lib.hid (OR.out.kept hk)
  replace HX2 := Lib.hid (HX2.out.go hk (Ext.refl _ _))
  replace K := K.trans hk
  rw [HFY.out, show ofO (some (insPos x.boxes nm)) = (insPos x.boxes nm : Int) from rfl]
  clear hk
  obtain ⟨cX0, cX1, cX2, fX0, fX1, fX2⟩ := OX.out.three
  obtain ⟨cR0, cR1, cR2, fR0, fR1, fR2⟩ := OR.out.three
  generalize hpa : insPos x.boxes nm = a at *
  have HPA := Lib.hid hpa
  clear hpa
  have a0 : (0 : Int) ≤ (a : Int) := by omega
  go_wp2_with fail
  have HX2o := HX2
  have zX5 := OX.out.lt
  have zR5 := OR.out.lt
  have zK5 := K.size
  refine (with_any (w.heap.size :: (w.heap.size + 1) :: V) (insX x.boxes ⟨nm, gv, 1, []⟩) (.slice A2 (n + 1) c2) (.slice A3 m c3) (.slice MA (bxAt x 0).mails.length mcc) (gv + 1) a (bxAt x 0).mails _ HX2.out.parts.2.1 ⟨_, _, _, rfl⟩ (by have h0 := HM0.out.go (U := (w.heap.size :: (w.heap.size + 1) :: V)) K (Ext.cons (Nat.le_refl _) (Ext.cons (by omega) (Ext.refl _ _))); exact h0) (by rw [HYL.out]; omega) (by rw [HYL.out]; omega)).mono ?_
  rintro e w6 ⟨r, rc, ps, rfl, hps, hml, ho, hk⟩
  clear cX0 cX1 cX2 fX0 fX1 fX2 cR0 cR1 cR2 fR0 fR1 fR2
  replace OX := Lib.hid (OX.out.kept hk)
  replace OR := Lib.hid (OR.out.kept hk)
  replace HX2 := Lib.hid (HX2.out.go hk (Ext.refl _ _))
  replace K := K.trans hk
  rw [HYL.out] at ho ⊢
  have HPS := Lib.hid hps
  have HO := Lib.hid ho
  have hrr := HO.out.lt r rfl
  have HML := Lib.hid (MlsAll.go hml hk (Ext.cons hrr.1 (Ext.refl _ _)))
  replace HX2 := Lib.hid (HX2o.out.go hk (Ext.cons hrr.1 (Ext.refl _ _)))
  clear hps hml ho HX2o
  clear hk
  have HPL : Hid (ps.length = n + 1) := by show _ = _; have := congrArg List.length HPS.out; rw [List.length_map, List.length_set, HYL.out] at this; exact this
  have hcap : rc ≤ maxLen ∧ n + 1 ≤ rc := by
    rcases HO.out.2 with ⟨e, _⟩ | ⟨_, _, _, e, _, _, h1, h2, _⟩
    · cases e
    · cases e; exact ⟨h2, h1⟩
  obtain ⟨hcap1, hcap2⟩ := hcap
  unfold maxLen at hcap1
  have gk := World.ownsRow.cellAt HO.out (a * 4 + 2) (by omega)
  rw [(bxs_at (by rw [HPL.out]; omega)).2.2.1] at gk
  have gf := World.ownsRow.frozenAt HO.out (a * 4 + 2)
  have gk2 := World.ownsRow.cellAt HO.out (0 * 4 + 3) (by omega)
  rw [(bxs_at (by rw [HPL.out]; omega)).2.2.2] at gk2
  have gf2 := World.ownsRow.frozenAt HO.out (0 * 4 + 3)
  simp only [Nat.zero_mul, Nat.zero_add] at gk2 gf2
  obtain ⟨old, gk⟩ : ∃ old, w6.cell? ⟨r, a * 4 + 2, none⟩ = some old := ⟨_, gk⟩
  obtain ⟨old2, gk2⟩ : ∃ old, w6.cell? ⟨r, 3, none⟩ = some old := ⟨_, gk2⟩
  have a1 : (a : Int) < (n : Int) + 1 := by omega
  have a2 : (a : Int) < ((n + 1 : Nat) : Int) := by omega
  have n0 : (0 : Int) < ((n + 1 : Nat) : Int) := by omega
  have hne : ¬ (3 = a * 4 + 2) := by omega
  obtain ⟨cX0, cX1, cX2, fX0, fX1, fX2⟩ := OX.out.three
  obtain ⟨cR0, cR1, cR2, fR0, fR1, fR2⟩ := OR.out.three
  go_wp2
  clear gk gk2 gf gf2
  have HPA1 : Hid (a < ps.length) := by show _ < _; rw [HPL.out]; omega
  clear cX0 cX1 cX2 fX0 fX1 fX2 cR0 cR1 cR2 fR0 fR1 fR2
  replace OX : Hid (Own (((w6.setCell ⟨w.heap.size, 0, none⟩ (.slice (some ⟨r, 0, none⟩) (n + 1) rc)).setCell ⟨w.heap.size, 1, none⟩ (.slice A3 m c3)).setCell ⟨w.heap.size, 2, none⟩ (.int .i64 (gv + 1))) w.heap.size 25 [.slice (some ⟨r, 0, none⟩) (n + 1) rc, .slice A3 m c3, .int .i64 (gv + 1)]) := Lib.hid (((OX.out.set_ 0 (.slice (some ⟨r, 0, none⟩) (n + 1) rc)).set_ 1 (.slice A3 m c3)).set_ 2 (.int .i64 (gv + 1)))
  replace OR : Hid (Own (((w6.setCell ⟨w.heap.size, 0, none⟩ (.slice (some ⟨r, 0, none⟩) (n + 1) rc)).setCell ⟨w.heap.size, 1, none⟩ (.slice A3 m c3)).setCell ⟨w.heap.size, 2, none⟩ (.int .i64 (gv + 1))) (w.heap.size + 1) 25 [.slice none 0 0, .slice none 0 0, .int .i64 0]) := Lib.hid (((OR.out.far (p := ⟨w.heap.size, 0, none⟩) (by first | omega | (simp; omega) | simp) (.slice (some ⟨r, 0, none⟩) (n + 1) rc)).far (p := ⟨w.heap.size, 1, none⟩) (by first | omega | (simp; omega) | simp) (.slice A3 m c3)).far (p := ⟨w.heap.size, 2, none⟩) (by first | omega | (simp; omega) | simp) (.int .i64 (gv + 1)))
  replace HX2 := Lib.hid (((HX2.out.put (p := ⟨w.heap.size, 0, none⟩) (by simp) (.slice (some ⟨r, 0, none⟩) (n + 1) rc)).put (p := ⟨w.heap.size, 1, none⟩) (by simp) (.slice A3 m c3)).put (p := ⟨w.heap.size, 2, none⟩) (by simp) (.int .i64 (gv + 1)))
  replace HO := Lib.hid (ownsRow_setCell_other (ownsRow_setCell_other (ownsRow_setCell_other HO.out (a := ⟨w.heap.size, 0, none⟩) (fun e => by first | (have := ownBlock_eq e; (try dsimp only at this); omega) | (have := (HO.out.lt _ e).1; (try dsimp only at this); omega)) (.slice (some ⟨r, 0, none⟩) (n + 1) rc)) (a := ⟨w.heap.size, 1, none⟩) (fun e => by first | (have := ownBlock_eq e; (try dsimp only at this); omega) | (have := (HO.out.lt _ e).1; (try dsimp only at this); omega)) (.slice A3 m c3)) (a := ⟨w.heap.size, 2, none⟩) (fun e => by first | (have := ownBlock_eq e; (try dsimp only at this); omega) | (have := (HO.out.lt _ e).1; (try dsimp only at this); omega)) (.int .i64 (gv + 1)))
  replace HML := Lib.hid (((HML.out.put (p := ⟨w.heap.size, 0, none⟩) (by simp) (.slice (some ⟨r, 0, none⟩) (n + 1) rc)).put (p := ⟨w.heap.size, 1, none⟩) (by simp) (.slice A3 m c3)).put (p := ⟨w.heap.size, 2, none⟩) (by simp) (.int .i64 (gv + 1)))
  replace K := (((K.setCell (p := ⟨w.heap.size, 0, none⟩) (by first | exact Nat.le_refl _ | (simp only []; omega) | simp) (.slice (some ⟨r, 0, none⟩) (n + 1) rc)).setCell (p := ⟨w.heap.size, 1, none⟩) (by first | exact Nat.le_refl _ | (simp only []; omega) | simp) (.slice A3 m c3)).setCell (p := ⟨w.heap.size, 2, none⟩) (by first | exact Nat.le_refl _ | (simp only []; omega) | simp) (.int .i64 (gv + 1)))
  generalize (((w6.setCell ⟨w.heap.size, 0, none⟩ (.slice (some ⟨r, 0, none⟩) (n + 1) rc)).setCell ⟨w.heap.size, 1, none⟩ (.slice A3 m c3)).setCell ⟨w.heap.size, 2, none⟩ (.int .i64 (gv + 1))) = w7 at *
  replace OX : Hid (Own (w7.setCell ⟨r, a * 4 + 2, none⟩ (.int .i64 (bxAt x 0).next)) w.heap.size 25 [.slice (some ⟨r, 0, none⟩) (n + 1) rc, .slice A3 m c3, .int .i64 (gv + 1)]) := Lib.hid (OX.out.far (p := ⟨r, a * 4 + 2, none⟩) (by first | omega | (simp; omega) | simp) (.int .i64 (bxAt x 0).next))
  replace OR : Hid (Own (w7.setCell ⟨r, a * 4 + 2, none⟩ (.int .i64 (bxAt x 0).next)) (w.heap.size + 1) 25 [.slice none 0 0, .slice none 0 0, .int .i64 0]) := Lib.hid (OR.out.far (p := ⟨r, a * 4 + 2, none⟩) (by first | omega | (simp; omega) | simp) (.int .i64 (bxAt x 0).next))
  replace HX2 := Lib.hid (HX2.out.put (p := ⟨r, a * 4 + 2, none⟩) (by simp) (.int .i64 (bxAt x 0).next))
  replace HO := Lib.hid (World.ownsRow.stored HO.out (a * 4 + 2) (.int .i64 (bxAt x 0).next)).1
  replace HML := Lib.hid (HML.out.put (p := ⟨r, a * 4 + 2, none⟩) (by simp) (.int .i64 (bxAt x 0).next))
  replace K := (K.setCell (p := ⟨r, a * 4 + 2, none⟩) (by first | exact Nat.le_refl _ | (simp only []; omega) | simp) (.int .i64 (bxAt x 0).next))
  generalize (w7.setCell ⟨r, a * 4 + 2, none⟩ (.int .i64 (bxAt x 0).next)) = w8 at *
  replace OX : Hid (Own (w8.setCell ⟨r, 3, none⟩ (.slice none 0 0)) w.heap.size 25 [.slice (some ⟨r, 0, none⟩) (n + 1) rc, .slice A3 m c3, .int .i64 (gv + 1)]) := Lib.hid (OX.out.far (p := ⟨r, 3, none⟩) (by first | omega | (simp; omega) | simp) (.slice none 0 0))
  replace OR : Hid (Own (w8.setCell ⟨r, 3, none⟩ (.slice none 0 0)) (w.heap.size + 1) 25 [.slice none 0 0, .slice none 0 0, .int .i64 0]) := Lib.hid (OR.out.far (p := ⟨r, 3, none⟩) (by first | omega | (simp; omega) | simp) (.slice none 0 0))
  replace HX2 := Lib.hid (HX2.out.put (p := ⟨r, 3, none⟩) (by simp) (.slice none 0 0))
  replace HO := Lib.hid (World.ownsRow.stored HO.out (3) (.slice none 0 0)).1
  replace HML := Lib.hid (HML.out.put (p := ⟨r, 3, none⟩) (by simp) (.slice none 0 0))
  replace K := (K.setCell (p := ⟨r, 3, none⟩) (by first | exact Nat.le_refl _ | (simp only []; omega) | simp) (.slice none 0 0))
  generalize (w8.setCell ⟨r, 3, none⟩ (.slice none 0 0)) = w9 at *
  replace OX : Hid (Own (((w9.setCell ⟨(w.heap.size + 1), 0, none⟩ (.slice (some ⟨r, 0, none⟩) (n + 1) rc)).setCell ⟨(w.heap.size + 1), 1, none⟩ (.slice A3 m c3)).setCell ⟨(w.heap.size + 1), 2, none⟩ (.int .i64 (gv + 1))) w.heap.size 25 [.slice (some ⟨r, 0, none⟩) (n + 1) rc, .slice A3 m c3, .int .i64 (gv + 1)]) := Lib.hid (((OX.out.far (p := ⟨(w.heap.size + 1), 0, none⟩) (by first | omega | (simp; omega) | simp) (.slice (some ⟨r, 0, none⟩) (n + 1) rc)).far (p := ⟨(w.heap.size + 1), 1, none⟩) (by first | omega | (simp; omega) | simp) (.slice A3 m c3)).far (p := ⟨(w.heap.size + 1), 2, none⟩) (by first | omega | (simp; omega) | simp) (.int .i64 (gv + 1)))
  replace OR : Hid (Own (((w9.setCell ⟨(w.heap.size + 1), 0, none⟩ (.slice (some ⟨r, 0, none⟩) (n + 1) rc)).setCell ⟨(w.heap.size + 1), 1, none⟩ (.slice A3 m c3)).setCell ⟨(w.heap.size + 1), 2, none⟩ (.int .i64 (gv + 1))) (w.heap.size + 1) 25 [.slice (some ⟨r, 0, none⟩) (n + 1) rc, .slice A3 m c3, .int .i64 (gv + 1)]) := Lib.hid (((OR.out.set_ 0 (.slice (some ⟨r, 0, none⟩) (n + 1) rc)).set_ 1 (.slice A3 m c3)).set_ 2 (.int .i64 (gv + 1)))
  replace HX2 := Lib.hid (((HX2.out.put (p := ⟨(w.heap.size + 1), 0, none⟩) (by simp) (.slice (some ⟨r, 0, none⟩) (n + 1) rc)).put (p := ⟨(w.heap.size + 1), 1, none⟩) (by simp) (.slice A3 m c3)).put (p := ⟨(w.heap.size + 1), 2, none⟩) (by simp) (.int .i64 (gv + 1)))
  replace HO := Lib.hid (ownsRow_setCell_other (ownsRow_setCell_other (ownsRow_setCell_other HO.out (a := ⟨(w.heap.size + 1), 0, none⟩) (fun e => by first | (have := ownBlock_eq e; (try dsimp only at this); omega) | (have := (HO.out.lt _ e).1; (try dsimp only at this); omega)) (.slice (some ⟨r, 0, none⟩) (n + 1) rc)) (a := ⟨(w.heap.size + 1), 1, none⟩) (fun e => by first | (have := ownBlock_eq e; (try dsimp only at this); omega) | (have := (HO.out.lt _ e).1; (try dsimp only at this); omega)) (.slice A3 m c3)) (a := ⟨(w.heap.size + 1), 2, none⟩) (fun e => by first | (have := ownBlock_eq e; (try dsimp only at this); omega) | (have := (HO.out.lt _ e).1; (try dsimp only at this); omega)) (.int .i64 (gv + 1)))
  replace HML := Lib.hid (((HML.out.put (p := ⟨(w.heap.size + 1), 0, none⟩) (by simp) (.slice (some ⟨r, 0, none⟩) (n + 1) rc)).put (p := ⟨(w.heap.size + 1), 1, none⟩) (by simp) (.slice A3 m c3)).put (p := ⟨(w.heap.size + 1), 2, none⟩) (by simp) (.int .i64 (gv + 1)))
  replace K := (((K.setCell (p := ⟨(w.heap.size + 1), 0, none⟩) (by first | exact Nat.le_refl _ | (simp only []; omega) | simp) (.slice (some ⟨r, 0, none⟩) (n + 1) rc)).setCell (p := ⟨(w.heap.size + 1), 1, none⟩) (by first | exact Nat.le_refl _ | (simp only []; omega) | simp) (.slice A3 m c3)).setCell (p := ⟨(w.heap.size + 1), 2, none⟩) (by first | exact Nat.le_refl _ | (simp only []; omega) | simp) (.int .i64 (gv + 1)))
  generalize (((w9.setCell ⟨(w.heap.size + 1), 0, none⟩ (.slice (some ⟨r, 0, none⟩) (n + 1) rc)).setCell ⟨(w.heap.size + 1), 1, none⟩ (.slice A3 m c3)).setCell ⟨(w.heap.size + 1), 2, none⟩ (.int .i64 (gv + 1))) = w10 at *
  obtain ⟨cX0, cX1, cX2, fX0, fX1, fX2⟩ := OX.out.three
  obtain ⟨cR0, cR1, cR2, fR0, fR1, fR2⟩ := OR.out.three
  refine bodyPost_ret (v := .tuple #[.agg #[.slice (some ⟨r, 0, none⟩) (n + 1) rc, .slice A3 m c3, .int .i64 (gv + 1)], .int .i64 0]) (by simp [results, Try.results54, go_sem, cR0, cR1, cR2]) rfl ?_
  refine ⟨_, by rw [HEX.out], ?_, K⟩
  rw [HEX.out]
  have ho := HO.out
  rw [bxs_nx HPA1.out] at ho
  have hl2 : 0 < (ps.set a (⟨(ps[a]'HPA1.out).1.name, (ps[a]'HPA1.out).1.val, (bxAt x 0).next, (ps[a]'HPA1.out).1.mails⟩, (ps[a]'HPA1.out).2)).length := by rw [List.length_set, HPL.out]; omega
  have e3 := bxs_mails hl2 [] (.slice none 0 0)
  simp only [Nat.zero_mul, Nat.zero_add] at e3
  rw [e3] at ho
  refine ix_of_row ?_ ho (by rw [List.length_set, List.length_set, HPL.out]) (fun k hk => by have := HOV.out k hk; omega) (fun p hp => ?_) (HX2.out.parts.2.2.go (Kept.refl _) (fun k hk => .inl (List.mem_cons_of_mem _ (List.mem_cons_of_mem _ (List.mem_cons_of_mem _ hk))))) (by show x.given + 1 = _; rw [HG.out])
  · have hps := HPS.out
    rw [← HG.out] at hps
    exact mov_map hps HPA.out (by rw [HN.out]; exact h1n) HPA1.out hl2
  · rcases List.mem_or_eq_of_mem_set hp with hp | rfl
    · rcases List.mem_or_eq_of_mem_set hp with hp | rfl
      · exact (HML.out p hp).go (Kept.refl _) (fun k hk => .inl (List.mem_cons_of_mem _ (List.mem_cons_of_mem _ (List.mem_cons_of_mem _ hk))))
      · exact (HML.out _ (List.getElem_mem HPA1.out)).go (Kept.refl _) (fun k hk => .inl (List.mem_cons_of_mem _ (List.mem_cons_of_mem _ (List.mem_cons_of_mem _ hk))))
    · exact mlsAt_nil _ _

end Go.Proofs.Ytjinnkbnllnllaa
