/- Walk: store.Get. -/
import Derived.Test.YtagpimahicgkmaaDoorStC
import Derived.Test.YtagpimahicgkmaaDoorShelf
namespace Go.Proofs.YtagpimahicgkmaaDoor
open Go.RowKit

theorem dec_used {s : ByteArray} (h : (decS s).used = true) : decBad s = false ∧ decS s = decRaw s ∧ s = encS (decRaw s) := by
  unfold decS at h ⊢
  split at h
  · cases h
  · rename_i hb
    rw [if_neg hb]
    split at h
    · rename_i he
      rw [if_pos he]
      refine ⟨by simpa using hb, rfl, ?_⟩
      rw [beq_iff_eq, ByteArray.toList_eq, ByteArray.toList_eq] at he
      generalize encS (decRaw s) = x at *
      obtain ⟨a⟩ := s
      obtain ⟨b⟩ := x
      congr 1
      exact Array.toList_inj.1 he
    · cases h
theorem dec_parts {s : ByteArray} (hs : s.size = 64) (h : (decS s).used = true) : (decS s).cls ≤ 1 ∧ (decS s).blk < blocksN (decS s).cls ∧ (decS s).size ≤ capN (decS s).cls ∧ 1 ≤ (decS s).name.size ∧ (decS s).name.size ≤ 24 := by
  obtain ⟨hb, e, _⟩ := dec_used h
  rw [e]
  simp only [decBad, Bool.or_eq_false_iff, decide_eq_false_iff_not, Nat.not_lt, Nat.not_le, Bool.not_eq_false', beq_iff_eq] at hb
  obtain ⟨⟨⟨⟨⟨_, h1⟩, h2⟩, h3⟩, h4⟩, h5⟩ := hb
  refine ⟨h1, h2, h3, ?_, ?_⟩
  · show 1 ≤ (s.extract 6 (6 + decN s)).size
    rw [ByteArray.size_extract]; omega
  · show (s.extract 6 (6 + decN s)).size ≤ 24
    rw [ByteArray.size_extract]; omega
/-- A slot that may be: what all used ones are. -/
structure SlotOk (t : Slot) : Prop where
  cls : t.cls ≤ 1
  blk : t.blk < blocksN t.cls
  size : t.size ≤ capN t.cls
  lo : 1 ≤ t.name.size
  hi : t.name.size ≤ 24
theorem slots_ok {c : List ByteArray} (hl : c.length = 381) (h64 : ∀ s ∈ c, s.size = 64) : ∀ t ∈ slotsL c, t.used = true → SlotOk t := by
  intro t ht hu
  simp only [slotsL, slTo, List.mem_map, List.mem_range] at ht
  obtain ⟨i, hi, rfl⟩ := ht
  rw [if_pos hi] at hu ⊢
  have hs : (c.getD (61 + i) .empty).size = 64 := h64 _ (by rw [List.getD_eq_getElem?_getD, List.getElem?_eq_getElem (by omega)]; exact List.getElem_mem _)
  obtain ⟨h1, h2, h3, h4, h5⟩ := dec_parts hs hu
  exact ⟨h1, h2, h3, h4, h5⟩
def joinS (xs : List ByteArray) : ByteArray := ⟨(Lib.join (xs.map (·.data.toList)) []).toArray⟩
def objB (c : List ByteArray) (t : Slot) : ByteArray := (joinS ((c.drop (firstN t.cls t.blk)).take (countN t.cls))).extract 0 t.size
def getR (d : Dk) (nm : ByteArray) : ByteArray × Int :=
  if storeB d then match (slotsL (contD d)).findIdx? (nameP nm) with
    | some i => (objB (contD d) ((slotsL (contD d)).getD i slot0), 0)
    | none => (⟨#[]⟩, 6)
  else (⟨#[]⟩, 1)
theorem join_flat2 : ∀ xs : List (List UInt8), Lib.join xs [] = xs.flatten
  | [] => rfl
  | x :: r => by rw [Lib.join_cons]; simp [Lib.joinTail]
theorem joinS_size (xs : List ByteArray) (h : ∀ x ∈ xs, x.size = 64) : (joinS xs).size = 64 * xs.length := by
  show (Lib.join _ []).toArray.size = _
  rw [List.size_toArray, join_flat2]
  induction xs with
  | nil => rfl
  | cons x xs ih =>
    have hx : x.data.toList.length = 64 := by rw [Array.length_toList]; exact h x (by simp)
    rw [List.map_cons, List.flatten_cons, List.length_append, ih (fun y hy => h y (by simp [hy])), hx, List.length_cons]; omega
theorem first_le {t : Slot} (h : SlotOk t) : firstN t.cls t.blk + countN t.cls ≤ 381 ∧ capN t.cls = 64 * countN t.cls := by
  have h1 := h.cls
  have h2 := h.blk
  unfold blocksN at h2
  unfold firstN countN capN
  by_cases e : t.cls = 0
  · rw [if_pos e, if_pos e, if_pos e]; rw [if_pos e] at h2; omega
  · rw [if_neg e, if_neg e, if_neg e]; rw [if_neg e] at h2; omega
theorem ret2_s {a b : ByteArray} {m n : Int} (h : a = b) (h' : m = n) : Ending.returned (.tuple #[.string a, .int .i64 m]) = .returned (.tuple #[.string b, .int .i64 n]) := by rw [h, h']

set_option maxRecDepth 100000 in
set_option maxHeartbeats 4000000 in
theorem get_any (d : Dk) (nm : ByteArray) (v : Value) (w : World) (h : DkAt [] w v d) :
    Calls Tryd.prog 40 #[v, .string nm] w fun e w' => e = .returned (.tuple #[.string (getR d nm).1, .int .i64 (getR d nm).2]) ∧ Kept w w' := by
  have HD := Lib.hid h
  obtain ⟨_, _, rfl, _, _⟩ := h
  obtain ⟨A0, c0, B0, e0, rfl, rfl⟩ := HD.out.form
  generalize d.sec.length = n0 at *
  generalize d.cache.length = m0 at *
  go_enter Tryd.func40, Tryd.ntmps40
  go_wp2_with fail
  have OD := Lib.hid (Own.newAt w w.heap.size 25 [.slice A0 n0 c0, .slice B0 m0 e0] (by simp))
  have K := ((Kept.refl w).alloc (.cells #[.slice A0 n0 c0, .slice B0 m0 e0] 25))
  generalize (w.alloc (.cells #[.slice A0 n0 c0, .slice B0 m0 e0] 25)) = w1 at *
  obtain ⟨cD0, cD1, fD0, fD1⟩ := OD.out.two
  clear cD0 cD1 fD0 fD1
  replace HD := Lib.hid (HD.out.go K (Ext.refl _ _))
  refine (contents_any [] d _ _ HD.out (fun _ h => by cases h)).mono ?_
  rintro e w2 ⟨r2, rfl, hr2, hk⟩
  replace OD := Lib.hid (OD.out.kept hk)
  replace K := K.trans hk
  have HR2 := Lib.hid hr2
  clear hr2
  clear hk
  rcases Bool.eq_false_or_eq_true (storeB d) with hs | hs
  · rw [hs]
    have hcl := contD_len hs
    have hc64 := contD_64 hs
    have HG : Hid (getR d nm = match (slotsL (contD d)).findIdx? (nameP nm) with | some i => (objB (contD d) ((slotsL (contD d)).getD i slot0), 0) | none => (⟨#[]⟩, 6)) := by show _ = _; unfold getR; rw [if_pos hs]
    generalize contD d = c at *
    have HCL := Lib.hid hcl
    have HC64 := Lib.hid hc64
    obtain ⟨CA, cc, rfl, hcc1, hcc2, hcrow⟩ := HR2.out
    rw [hcl] at hcc1 ⊢
    unfold maxLen at hcc2
    have HCR := Lib.hid hcrow
    clear hcrow hcl hc64
    have HSL : Hid (∀ w', Kept w2 w' → StrsAt [] w' (.slice CA 381 cc) c) := fun w' k => by
      have := HR2.out.go k (Ext.refl _ _)
      rwa [HCL.out] at this
    go_wp2_with fail
    refine (slots_any c _ _ (HSL.out _ (Kept.refl _)) HCL.out HC64.out).mono ?_
    rintro e w3 ⟨g, rfl, hg, ho, hk⟩
    replace OD := Lib.hid (OD.out.kept hk)
    replace K := K.trans hk
    have OL := Lib.hid ho
    have HSOK := Lib.hid (slots_ok HCL.out HC64.out)
    have HSN : Hid ((slotsL c).length = 32) := slTo_len c 32
    clear ho
    generalize slotsL c = l at *
    have HKK := Lib.hid hk
    clear hk
    have HKR : Hid (Row [] w3 CA (strs c)) := HCR.out.kept HKK.out
    have HFI : Hid (∀ w', Own w' g 121 (l.flatMap slotC) → Calls Tryd.prog 75 #[.slice (some ⟨g, 0, none⟩) 32 32, .string nm] w' fun e w'' => e = .returned (.int .i64 (ixI (nameP nm) l)) ∧ Kept w' w'') := fun w' ho => by
      have := find_any l g 32 nm w' ho (by rw [HSN.out]; omega)
      rwa [HSN.out] at this
    go_wp2_with fail
    refine (HFI.out _ OL.out).mono ?_
    rintro e w4 ⟨rfl, hk⟩
    replace OD := Lib.hid (OD.out.kept hk)
    replace K := K.trans hk
    replace OL := Lib.hid (OL.out.kept hk)
    replace HKR := Lib.hid (HKR.out.kept hk)
    clear hk
    rcases hfi : l.findIdx? (nameP nm) with _ | i
    · skip
      have hix : ixI (nameP nm) l = -1 := by unfold ixI; rw [hfi]
      rw [hix]
      have HE : Hid (getR d nm = (⟨#[]⟩, 6)) := by show _ = _; rw [HG.out, hfi]
      clear hix hfi
      go_wp2
      go_ret2
      exact ⟨by rw [HE.out]; rfl, K⟩
    · skip
      have hix : ixI (nameP nm) l = (i : Int) := by unfold ixI; rw [hfi]
      obtain ⟨hil, hip, hfst⟩ := List.findIdx?_eq_some_iff_getElem.1 hfi
      have hge : l.getD i slot0 = l[i] := by rw [List.getD_eq_getElem?_getD, List.getElem?_eq_getElem hil]; rfl
      rw [hix]
      have HE : Hid (getR d nm = (objB c l[i], 0)) := by show _ = _; rw [HG.out, hfi, ← hge]
      have hok : SlotOk l[i] := HSOK.out _ (List.getElem_mem hil) (by simp only [nameP, Bool.and_eq_true] at hip; exact hip.1)
      obtain ⟨hf1, hf2⟩ := first_le hok
      have hsz := hok.size
      have hbk : l[i].blk ≤ 1000 := by have := hok.blk; have := blocksN_le l[i].cls; omega
      have hi32 : i < 32 := by rw [HSN.out] at hil; exact hil
      have i0 : (0 : Int) ≤ (i : Int) := by omega
      have i1 : (i : Int) < 32 := by omega
      have i2 : ¬ (i : Int) < 0 := by omega
      obtain ⟨e0, e1, e2, e3, e4⟩ := slotC_five l[i]
      have c1 : w4.cell? ⟨g, i * 5 + 1, none⟩ = some (.int .i64 (l[i].cls : Int)) := by rw [OL.out.cell?]; exact (slot_at hil 1 (by omega)).trans e1
      have c2 : w4.cell? ⟨g, i * 5 + 2, none⟩ = some (.int .i64 (l[i].blk : Int)) := by rw [OL.out.cell?]; exact (slot_at hil 2 (by omega)).trans e2
      have c3 : w4.cell? ⟨g, i * 5 + 3, none⟩ = some (.int .i64 (l[i].size : Int)) := by rw [OL.out.cell?]; exact (slot_at hil 3 (by omega)).trans e3
      have zg := OL.out.lt
      unfold objB at HE
      have HSE : Hid (∀ w', Calls Tryd.prog 76 #[.int .i64 (l[i].cls : Int), .int .i64 (l[i].blk : Int)] w' fun e w'' => e = .returned (.tuple #[.int .i64 (firstN l[i].cls l[i].blk : Nat), .int .i64 (countN l[i].cls : Nat)]) ∧ Kept w' w'') := fun w' => (sectors_any _ _ w' hbk).mono fun _ _ h => ⟨h.1, h.2 ▸ Kept.refl _⟩
      have hct := countN_le l[i].cls
      have hc4 : 4 ≤ countN l[i].cls := by unfold countN; split <;> omega
      have hcp := capN_le l[i].cls
      clear e0 e1 e2 e3 e4 hix hfi hfst hip hge hok hbk
      generalize firstN l[i].cls l[i].blk = fn at *
      generalize countN l[i].cls = cn at *
      generalize capN l[i].cls = cp at *
      generalize l[i].cls = tc at *
      generalize l[i].blk = tb at *
      generalize l[i].size = tz at *
      have j1 : IntKind.i64.wrap ((fn : Int) + (cn : Int)) = (fn : Int) + (cn : Int) := IntWalk.i64_in _ (by omega)
      obtain ⟨b, o, rfl, hb, _, hcs⟩ := HKR.out (by rw [strs_length, HCL.out]; omega)
      have HCS := Lib.hid hcs
      have hjs : (joinS ((c.drop fn).take cn)).size = cp := by
        rw [joinS_size _ (fun x hx => HC64.out x (List.mem_of_mem_drop (List.mem_of_mem_take hx))), List.length_take, List.length_drop, HCL.out]; omega
      have hjl : (Lib.join (((c.drop fn).take cn).map (·.data.toList)) []).length ≤ 140737488355328 := by
        have h0 : (Lib.join (((c.drop fn).take cn).map (·.data.toList)) []).length = (joinS ((c.drop fn).take cn)).size := by show _ = (Lib.join _ []).toArray.size; rw [List.size_toArray]
        rw [h0, hjs]; omega
      have HJ : Hid (∀ w', Kept w4 w' → Calls Tryd.prog 77 #[.slice (some ⟨b, o + fn, none⟩) cn (cc - fn), .string ⟨#[]⟩] w' fun e w1 => e = .returned (.string (joinS ((c.drop fn).take cn))) ∧ Kept w' w1) := fun w' k => by
        have := Tryd.strings_Join b (o + fn) (cc - fn) ((c.drop fn).take cn) ⟨#[]⟩ w' (fun j x hx => by
          rw [List.getElem?_take] at hx
          split at hx
          · rw [List.getElem?_drop] at hx
            rw [k.cell (p := ⟨b, _, none⟩) hb, Nat.add_assoc]
            exact HCS.out (fn + j) _ (by unfold strs; rw [List.getElem?_map, hx]; rfl)
          · cases hx) (Nat.lt_of_lt_of_le hb k.size) (by rw [List.length_take]; omega) (by rw [List.length_take, List.length_drop, HCL.out]; omega) hjl
        rw [show ((c.drop fn).take cn).length = cn by rw [List.length_take, List.length_drop, HCL.out]; omega] at this
        exact this
      clear hcs hjl
      generalize joinS ((c.drop fn).take cn) = jb at *
      have hjz : tz ≤ jb.size := by omega
      clear hjs hf2 hsz
      go_upto_region 8 with fail
      have CL1 : ∀ W', Kept w4 W' → W'.cell? ⟨g, i * 5 + 1, none⟩ = some (.int .i64 (tc : Int)) := fun W' k => (k.cell (p := ⟨g, _, none⟩) zg).trans c1
      have CL2 : ∀ W', Kept w4 W' → W'.cell? ⟨g, i * 5 + 2, none⟩ = some (.int .i64 (tb : Int)) := fun W' k => (k.cell (p := ⟨g, _, none⟩) zg).trans c2
      have CL3 : ∀ W', Kept w4 W' → W'.cell? ⟨g, i * 5 + 3, none⟩ = some (.int .i64 (tz : Int)) := fun W' k => (k.cell (p := ⟨g, _, none⟩) zg).trans c3
      refine wp_region_Z (S := fun W' => Kept w4 W') (Z := []) (by kernel_rfl) ((Kept.refl _).drew) (fun hHeld => ?_)
      have kr := (Kept.refl w4).drew
      have Kr := K
      have zr := K.size
      replace K := Kr.trans kr
      generalize w4.drew = w5 at *
      refine wpAnyZ_take (i := 0) (oi := { dst := some 27, op := Op.move (Operand.tmp 8), type := 118, pos := "store.go:73", after := #[], guard := none }) (v := ?_) rfl (by kernel_rfl) (fun _ _ _ h => h) (Or.inl ⟨by rfl, ?_⟩) (by assumption) ?_
      rotate_left
      · (intro wz hSw; (try dsimp only at hSw); go_simp; (try with_reducible rfl))
      (try simp only [Act.put, List.setIfInBounds_toArray, List.set_cons_zero, List.set_cons_succ])
      refine wpAnyZ_take (i := 1) (oi := { dst := some 28, op := Op.move (Operand.tmp 9), type := 3, pos := "store.go:73", after := #[], guard := none }) (v := ?_) rfl (by kernel_rfl) (fun _ _ _ h => h) (Or.inl ⟨by rfl, ?_⟩) (by assumption) ?_
      rotate_left
      · (intro wz hSw; (try dsimp only at hSw); go_simp; (try with_reducible rfl))
      (try simp only [Act.put, List.setIfInBounds_toArray, List.set_cons_zero, List.set_cons_succ])
      refine wpAnyZ_take (i := 2) (oi := { dst := some 29, op := Op.indexAddr 118 (Operand.tmp 27) (Operand.tmp 28), type := 0, pos := "store.go:73", after := #[{ on := 0, ground := Ground.data }, { on := 1, ground := Ground.data }], guard := none }) (v := ?_) rfl (by kernel_rfl) (fun _ _ _ h => h) (Or.inl ⟨by rfl, ?_⟩) (by assumption) ?_
      rotate_left
      · (intro wz hSw; (try dsimp only at hSw); go_simp; (try with_reducible rfl))
      (try simp only [Act.put, List.setIfInBounds_toArray, List.set_cons_zero, List.set_cons_succ])
      refine wpAnyZ_take (i := 3) (oi := { dst := some 30, op := Op.fieldAddr 121 (Operand.tmp 29) 1, type := 0, pos := "store.go:73", after := #[{ on := 2, ground := Ground.data }], guard := none }) (v := ?_) rfl (by kernel_rfl) (fun _ _ _ h => h) (Or.inl ⟨by rfl, ?_⟩) (by assumption) ?_
      rotate_left
      · (intro wz hSw; (try dsimp only at hSw); go_simp; (try with_reducible rfl))
      (try simp only [Act.put, List.setIfInBounds_toArray, List.set_cons_zero, List.set_cons_succ])
      refine wpAnyZ_take (i := 4) (oi := { dst := some 31, op := Op.load 3 (Operand.tmp 30), type := 3, pos := "store.go:73", after := #[{ on := 3, ground := Ground.data }], guard := none }) (v := ?_) rfl (by kernel_rfl) (fun _ _ _ h => h) (Or.inl ⟨by rfl, ?_⟩) (by assumption) ?_
      rotate_left
      · (intro wz hSw; (try dsimp only at hSw); go_simp; (try with_reducible rfl))
      (try simp only [Act.put, List.setIfInBounds_toArray, List.set_cons_zero, List.set_cons_succ])
      refine wpAnyZ_take (i := 5) (oi := { dst := some 32, op := Op.move (Operand.tmp 8), type := 118, pos := "store.go:73", after := #[], guard := none }) (v := ?_) rfl (by kernel_rfl) (fun _ _ _ h => h) (Or.inl ⟨by rfl, ?_⟩) (by assumption) ?_
      rotate_left
      · (intro wz hSw; (try dsimp only at hSw); go_simp; (try with_reducible rfl))
      (try simp only [Act.put, List.setIfInBounds_toArray, List.set_cons_zero, List.set_cons_succ])
      refine wpAnyZ_take (i := 6) (oi := { dst := some 33, op := Op.move (Operand.tmp 9), type := 3, pos := "store.go:73", after := #[], guard := none }) (v := ?_) rfl (by kernel_rfl) (fun _ _ _ h => h) (Or.inl ⟨by rfl, ?_⟩) (by assumption) ?_
      rotate_left
      · (intro wz hSw; (try dsimp only at hSw); go_simp; (try with_reducible rfl))
      (try simp only [Act.put, List.setIfInBounds_toArray, List.set_cons_zero, List.set_cons_succ])
      refine wpAnyZ_take (i := 7) (oi := { dst := some 34, op := Op.indexAddr 118 (Operand.tmp 32) (Operand.tmp 33), type := 0, pos := "store.go:73", after := #[{ on := 5, ground := Ground.data }, { on := 6, ground := Ground.data }], guard := none }) (v := ?_) rfl (by kernel_rfl) (fun _ _ _ h => h) (Or.inl ⟨by rfl, ?_⟩) (by assumption) ?_
      rotate_left
      · (intro wz hSw; (try dsimp only at hSw); go_simp; (try with_reducible rfl))
      (try simp only [Act.put, List.setIfInBounds_toArray, List.set_cons_zero, List.set_cons_succ])
      refine wpAnyZ_take (i := 8) (oi := { dst := some 35, op := Op.fieldAddr 121 (Operand.tmp 34) 2, type := 0, pos := "store.go:73", after := #[{ on := 7, ground := Ground.data }], guard := none }) (v := ?_) rfl (by kernel_rfl) (fun _ _ _ h => h) (Or.inl ⟨by rfl, ?_⟩) (by assumption) ?_
      rotate_left
      · (intro wz hSw; (try dsimp only at hSw); go_simp; (try with_reducible rfl))
      (try simp only [Act.put, List.setIfInBounds_toArray, List.set_cons_zero, List.set_cons_succ])
      refine wpAnyZ_take (i := 9) (oi := { dst := some 36, op := Op.load 3 (Operand.tmp 35), type := 3, pos := "store.go:73", after := #[{ on := 8, ground := Ground.data }], guard := none }) (v := ?_) rfl (by kernel_rfl) (fun _ _ _ h => h) (Or.inl ⟨by rfl, ?_⟩) (by assumption) ?_
      rotate_left
      · (intro wz hSw; (try dsimp only at hSw); go_simp; (try with_reducible rfl))
      (try simp only [Act.put, List.setIfInBounds_toArray, List.set_cons_zero, List.set_cons_succ])
      refine wpAnyZ_ready (rs := [10]) (by kernel_rfl) (by simp) ?_
      refine AllReadyZ.cons (o := { dst := some 37, op := Op.call { callee := Callee.value (Operand.func 76), args := #[Operand.tmp 31, Operand.tmp 36], argTypes := #[3, 3] }, type := 132, pos := "store.go:73", after := #[{ on := 4, ground := Ground.data }, { on := 9, ground := Ground.data }], guard := none }) rfl (fun KK hKK => ?_) AllReadyZ.nil
      go_simp
      refine (HSE.out w5).mono ?_
      rintro e w6 ⟨rfl, hk⟩
      clear hHeld
      replace kr := kr.trans hk
      replace K := Kr.trans kr
      clear hk
      go_simp
      refine hKK.out _ _ ?_ (fun hHeld => ?_)
      · exact kr
      clear hKK KK
      (try simp only [Act.put, List.setIfInBounds_toArray, List.set_cons_zero, List.set_cons_succ])
      refine wpAnyZ_take (i := 11) (oi := { dst := some 26, op := Op.move (Operand.tmp 37), type := 132, pos := "store.go:73", after := #[{ on := 10, ground := Ground.data }], guard := none }) (v := ?_) rfl (by kernel_rfl) (fun _ _ _ h => h) (Or.inl ⟨by rfl, ?_⟩) (by assumption) ?_
      rotate_left
      · (intro wz hSw; (try dsimp only at hSw); go_simp; (try with_reducible rfl))
      (try simp only [Act.put, List.setIfInBounds_toArray, List.set_cons_zero, List.set_cons_succ])
      refine wpAnyZ_take (i := 12) (oi := { dst := some 38, op := Op.extract (Operand.tmp 26) 0, type := 3, pos := "store.go:73", after := #[{ on := 11, ground := Ground.data }], guard := none }) (v := ?_) rfl (by kernel_rfl) (fun _ _ _ h => h) (Or.inl ⟨by rfl, ?_⟩) (by assumption) ?_
      rotate_left
      · (intro wz hSw; (try dsimp only at hSw); go_simp; (try with_reducible rfl))
      (try simp only [Act.put, List.setIfInBounds_toArray, List.set_cons_zero, List.set_cons_succ])
      refine wpAnyZ_take (i := 13) (oi := { dst := some 39, op := Op.extract (Operand.tmp 26) 1, type := 3, pos := "store.go:73", after := #[{ on := 11, ground := Ground.data }, { on := 14, ground := Ground.gcOnly Departure.lateStores }], guard := none }) (v := ?_) rfl (by kernel_rfl) (fun _ _ _ h => h) (Or.inl ⟨by rfl, ?_⟩) (by assumption) ?_
      rotate_left
      · (intro wz hSw; (try dsimp only at hSw); go_simp; (try with_reducible rfl))
      (try simp only [Act.put, List.setIfInBounds_toArray, List.set_cons_zero, List.set_cons_succ])
      refine wpAnyZ_take (i := 14) (oi := { dst := some 10, op := Op.assign (Operand.tmp 38), type := 3, pos := "store.go:73", after := #[{ on := 12, ground := Ground.data }, { on := 10, ground := Ground.chain }, { on := 0, ground := Ground.phase }, { on := 1, ground := Ground.phase }, { on := 2, ground := Ground.phase }, { on := 3, ground := Ground.phase }, { on := 4, ground := Ground.phase }, { on := 5, ground := Ground.phase }, { on := 6, ground := Ground.phase }, { on := 7, ground := Ground.phase }, { on := 8, ground := Ground.phase }, { on := 9, ground := Ground.phase }, { on := 10, ground := Ground.phase }, { on := 11, ground := Ground.phase }, { on := 12, ground := Ground.phase }, { on := 13, ground := Ground.textOnly Departure.lateStores }], guard := none }) (v := ?_) rfl (by kernel_rfl) (fun _ _ _ h => h) (Or.inl ⟨by rfl, ?_⟩) (by assumption) ?_
      rotate_left
      · (intro wz hSw; (try dsimp only at hSw); go_simp; (try with_reducible rfl))
      (try simp only [Act.put, List.setIfInBounds_toArray, List.set_cons_zero, List.set_cons_succ])
      refine wpAnyZ_take (i := 15) (oi := { dst := some 11, op := Op.assign (Operand.tmp 39), type := 3, pos := "store.go:73", after := #[{ on := 13, ground := Ground.data }, { on := 14, ground := Ground.chain }, { on := 0, ground := Ground.phase }, { on := 1, ground := Ground.phase }, { on := 2, ground := Ground.phase }, { on := 3, ground := Ground.phase }, { on := 4, ground := Ground.phase }, { on := 5, ground := Ground.phase }, { on := 6, ground := Ground.phase }, { on := 7, ground := Ground.phase }, { on := 8, ground := Ground.phase }, { on := 9, ground := Ground.phase }, { on := 10, ground := Ground.phase }, { on := 11, ground := Ground.phase }, { on := 12, ground := Ground.phase }, { on := 13, ground := Ground.phase }, { on := 14, ground := Ground.phase }], guard := none }) (v := ?_) rfl (by kernel_rfl) (fun _ _ _ h => h) (Or.inl ⟨by rfl, ?_⟩) (by assumption) ?_
      rotate_left
      · (intro wz hSw; (try dsimp only at hSw); go_simp; (try with_reducible rfl))
      (try simp only [Act.put, List.setIfInBounds_toArray, List.set_cons_zero, List.set_cons_succ])
      refine wpAnyZ_done (by kernel_rfl) ?_ _
      have kr8 := Lib.hid kr
      clear CL1 CL2 CL3 Kr zr hHeld kr
      have KJ : Kept w4 w6 := kr8.out
      have hzz := KJ.size
      replace c3 := (KJ.cell (p := ⟨g, i * 5 + 3, none⟩) zg).trans c3
      have zg9 := Nat.lt_of_lt_of_le zg hzz
      clear c1 c2
      have q1 : (0 : Int) ≤ (fn : Int) + (cn : Int) := by omega
      have q2 : (fn : Int) + (cn : Int) ≤ (cc : Int) := by omega
      have q3 : max ((fn : Int) + (cn : Int)) 0 = (fn : Int) + (cn : Int) := by omega
      have q4 : ¬ cc = fn := by omega
      have q5 : ((fn : Int) + (cn : Int)).toNat = fn + cn := by omega
      have q6 : (fn : Int) ≤ (fn : Int) + (cn : Int) := by omega
      have q7 : (tz : Int) ≤ (jb.size : Int) := by omega
      have q8 : (0 : Int) ≤ (tz : Int) := by omega
      go_upto_region 9 with fail
      have CL9 : ∀ W', Kept w6 W' → W'.cell? ⟨g, i * 5 + 3, none⟩ = some (.int .i64 (tz : Int)) := fun W' k => (k.cell (p := ⟨g, _, none⟩) zg9).trans c3
      refine wp_region_Z (S := fun W' => Kept w6 W') (Z := []) (by kernel_rfl) ((Kept.refl _).drew) (fun hHeld => ?_)
      have kr := (Kept.refl w6).drew
      have Kr := K
      have zr := K.size
      replace K := Kr.trans kr
      generalize w6.drew = w7 at *
      refine wpAnyZ_take (i := 0) (oi := { dst := some 40, op := Op.move (Operand.tmp 6), type := 22, pos := "store.go:74", after := #[], guard := none }) (v := ?_) rfl (by kernel_rfl) (fun _ _ _ h => h) (Or.inl ⟨by rfl, ?_⟩) (by assumption) ?_
      rotate_left
      · (intro wz hSw; (try dsimp only at hSw); go_simp; (try with_reducible rfl))
      (try simp only [Act.put, List.setIfInBounds_toArray, List.set_cons_zero, List.set_cons_succ])
      refine wpAnyZ_take (i := 1) (oi := { dst := some 41, op := Op.move (Operand.tmp 10), type := 3, pos := "store.go:74", after := #[], guard := none }) (v := ?_) rfl (by kernel_rfl) (fun _ _ _ h => h) (Or.inl ⟨by rfl, ?_⟩) (by assumption) ?_
      rotate_left
      · (intro wz hSw; (try dsimp only at hSw); go_simp; (try with_reducible rfl))
      (try simp only [Act.put, List.setIfInBounds_toArray, List.set_cons_zero, List.set_cons_succ])
      refine wpAnyZ_take (i := 2) (oi := { dst := some 42, op := Op.move (Operand.tmp 10), type := 3, pos := "store.go:74", after := #[], guard := none }) (v := ?_) rfl (by kernel_rfl) (fun _ _ _ h => h) (Or.inl ⟨by rfl, ?_⟩) (by assumption) ?_
      rotate_left
      · (intro wz hSw; (try dsimp only at hSw); go_simp; (try with_reducible rfl))
      (try simp only [Act.put, List.setIfInBounds_toArray, List.set_cons_zero, List.set_cons_succ])
      refine wpAnyZ_take (i := 3) (oi := { dst := some 43, op := Op.move (Operand.tmp 11), type := 3, pos := "store.go:74", after := #[], guard := none }) (v := ?_) rfl (by kernel_rfl) (fun _ _ _ h => h) (Or.inl ⟨by rfl, ?_⟩) (by assumption) ?_
      rotate_left
      · (intro wz hSw; (try dsimp only at hSw); go_simp; (try with_reducible rfl))
      (try simp only [Act.put, List.setIfInBounds_toArray, List.set_cons_zero, List.set_cons_succ])
      refine wpAnyZ_take (i := 4) (oi := { dst := some 44, op := Op.binOp BinOp.add 3 (Operand.tmp 42) (Operand.tmp 43) 3, type := 3, pos := "store.go:74", after := #[{ on := 2, ground := Ground.data }, { on := 3, ground := Ground.data }], guard := none }) (v := ?_) rfl (by kernel_rfl) (fun _ _ _ h => h) (Or.inl ⟨by rfl, ?_⟩) (by assumption) ?_
      rotate_left
      · (intro wz hSw; (try dsimp only at hSw); go_simp; (try with_reducible rfl))
      (try simp only [Act.put, List.setIfInBounds_toArray, List.set_cons_zero, List.set_cons_succ])
      refine wpAnyZ_take (i := 5) (oi := { dst := some 45, op := Op.slice 22 (Operand.tmp 40) (some (Operand.tmp 41)) (some (Operand.tmp 44)) none, type := 22, pos := "store.go:74", after := #[{ on := 0, ground := Ground.data }, { on := 1, ground := Ground.data }, { on := 4, ground := Ground.data }], guard := none }) (v := ?_) rfl (by kernel_rfl) (fun _ _ _ h => h) (Or.inl ⟨by rfl, ?_⟩) (by assumption) ?_
      rotate_left
      · (intro wz hSw; (try dsimp only at hSw); go_simp; (try with_reducible rfl))
      (try simp only [Act.put, List.setIfInBounds_toArray, List.set_cons_zero, List.set_cons_succ])
      refine wpAnyZ_take (i := 7) (oi := { dst := some 47, op := Op.move (Operand.tmp 8), type := 118, pos := "store.go:74", after := #[], guard := none }) (v := ?_) rfl (by kernel_rfl) (fun _ _ _ h => h) (Or.inl ⟨by rfl, ?_⟩) (by assumption) ?_
      rotate_left
      · (intro wz hSw; (try dsimp only at hSw); go_simp; (try with_reducible rfl))
      (try simp only [Act.put, List.setIfInBounds_toArray, List.set_cons_zero, List.set_cons_succ])
      refine wpAnyZ_take (i := 8) (oi := { dst := some 48, op := Op.move (Operand.tmp 9), type := 3, pos := "store.go:74", after := #[], guard := none }) (v := ?_) rfl (by kernel_rfl) (fun _ _ _ h => h) (Or.inl ⟨by rfl, ?_⟩) (by assumption) ?_
      rotate_left
      · (intro wz hSw; (try dsimp only at hSw); go_simp; (try with_reducible rfl))
      (try simp only [Act.put, List.setIfInBounds_toArray, List.set_cons_zero, List.set_cons_succ])
      refine wpAnyZ_take (i := 9) (oi := { dst := some 49, op := Op.indexAddr 118 (Operand.tmp 47) (Operand.tmp 48), type := 0, pos := "store.go:74", after := #[{ on := 7, ground := Ground.data }, { on := 8, ground := Ground.data }], guard := none }) (v := ?_) rfl (by kernel_rfl) (fun _ _ _ h => h) (Or.inl ⟨by rfl, ?_⟩) (by assumption) ?_
      rotate_left
      · (intro wz hSw; (try dsimp only at hSw); go_simp; (try with_reducible rfl))
      (try simp only [Act.put, List.setIfInBounds_toArray, List.set_cons_zero, List.set_cons_succ])
      refine wpAnyZ_take (i := 10) (oi := { dst := some 50, op := Op.fieldAddr 121 (Operand.tmp 49) 3, type := 0, pos := "store.go:74", after := #[{ on := 9, ground := Ground.data }], guard := none }) (v := ?_) rfl (by kernel_rfl) (fun _ _ _ h => h) (Or.inl ⟨by rfl, ?_⟩) (by assumption) ?_
      rotate_left
      · (intro wz hSw; (try dsimp only at hSw); go_simp; (try with_reducible rfl))
      (try simp only [Act.put, List.setIfInBounds_toArray, List.set_cons_zero, List.set_cons_succ])
      refine wpAnyZ_take (i := 11) (oi := { dst := some 51, op := Op.load 3 (Operand.tmp 50), type := 3, pos := "store.go:74", after := #[{ on := 10, ground := Ground.data }], guard := none }) (v := ?_) rfl (by kernel_rfl) (fun _ _ _ h => h) (Or.inl ⟨by rfl, ?_⟩) (by assumption) ?_
      rotate_left
      · (intro wz hSw; (try dsimp only at hSw); go_simp; (try with_reducible rfl))
      (try simp only [Act.put, List.setIfInBounds_toArray, List.set_cons_zero, List.set_cons_succ])
      refine wpAnyZ_ready (rs := [6]) (by kernel_rfl) (by simp) ?_
      refine AllReadyZ.cons (o := { dst := some 46, op := Op.call { callee := Callee.value (Operand.func 77), args := #[Operand.tmp 45, Operand.const (Value.string { data := #[] })], argTypes := #[22, 9] }, type := 9, pos := "store.go:74", after := #[{ on := 5, ground := Ground.data }], guard := none }) rfl (fun KK hKK => ?_) AllReadyZ.nil
      go_simp
      refine (HJ.out w7 (KJ.trans kr)).mono ?_
      rintro e w8 ⟨rfl, hk⟩
      clear hHeld
      replace kr := kr.trans hk
      replace K := Kr.trans kr
      clear hk
      go_simp
      refine hKK.out _ _ ?_ (fun hHeld => ?_)
      · exact kr
      clear hKK KK
      (try simp only [Act.put, List.setIfInBounds_toArray, List.set_cons_zero, List.set_cons_succ])
      refine wpAnyZ_take (i := 12) (oi := { dst := some 52, op := Op.slice 9 (Operand.tmp 46) none (some (Operand.tmp 51)) none, type := 9, pos := "store.go:74", after := #[{ on := 6, ground := Ground.data }, { on := 11, ground := Ground.data }], guard := none }) (v := ?_) rfl (by kernel_rfl) (fun _ _ _ h => h) (Or.inl ⟨by rfl, ?_⟩) (by assumption) ?_
      rotate_left
      · (intro wz hSw; (try dsimp only at hSw); go_simp; (try with_reducible rfl))
      (try simp only [Act.put, List.setIfInBounds_toArray, List.set_cons_zero, List.set_cons_succ])
      refine wpAnyZ_take (i := 13) (oi := { dst := some 4, op := Op.assign (Operand.tmp 52), type := 9, pos := "store.go:74", after := #[{ on := 12, ground := Ground.data }, { on := 6, ground := Ground.chain }, { on := 0, ground := Ground.phase }, { on := 1, ground := Ground.phase }, { on := 2, ground := Ground.phase }, { on := 3, ground := Ground.phase }, { on := 4, ground := Ground.phase }, { on := 5, ground := Ground.phase }, { on := 6, ground := Ground.phase }, { on := 7, ground := Ground.phase }, { on := 8, ground := Ground.phase }, { on := 9, ground := Ground.phase }, { on := 10, ground := Ground.phase }, { on := 11, ground := Ground.phase }, { on := 12, ground := Ground.phase }], guard := none }) (v := ?_) rfl (by kernel_rfl) (fun _ _ _ h => h) (Or.inl ⟨by rfl, ?_⟩) (by assumption) ?_
      rotate_left
      · (intro wz hSw; (try dsimp only at hSw); go_simp; (try with_reducible rfl))
      (try simp only [Act.put, List.setIfInBounds_toArray, List.set_cons_zero, List.set_cons_succ])
      refine wpAnyZ_take (i := 14) (oi := { dst := some 5, op := Op.assign (Operand.const (Value.int IntKind.i64 0)), type := 34, pos := "store.go:74", after := #[{ on := 13, ground := Ground.chain }, { on := 0, ground := Ground.phase }, { on := 1, ground := Ground.phase }, { on := 2, ground := Ground.phase }, { on := 3, ground := Ground.phase }, { on := 4, ground := Ground.phase }, { on := 5, ground := Ground.phase }, { on := 6, ground := Ground.phase }, { on := 7, ground := Ground.phase }, { on := 8, ground := Ground.phase }, { on := 9, ground := Ground.phase }, { on := 10, ground := Ground.phase }, { on := 11, ground := Ground.phase }, { on := 12, ground := Ground.phase }, { on := 13, ground := Ground.phase }], guard := none }) (v := ?_) rfl (by kernel_rfl) (fun _ _ _ h => h) (Or.inl ⟨by rfl, ?_⟩) (by assumption) ?_
      rotate_left
      · (intro wz hSw; (try dsimp only at hSw); go_simp; (try with_reducible rfl))
      (try simp only [Act.put, List.setIfInBounds_toArray, List.set_cons_zero, List.set_cons_succ])
      refine wpAnyZ_done (by kernel_rfl) ?_ _
      clear CL9 Kr zr hHeld kr
      go_wp2
      go_ret2
      exact ⟨by rw [HE.out]; rfl, K⟩
  · rw [hs]
    have HE : Hid (getR d nm = (⟨#[]⟩, 1)) := by show _ = _; unfold getR; rw [hs]; rfl
    clear hs
    go_wp2
    go_ret2
    exact ⟨by rw [HE.out]; rfl, K⟩
end Go.Proofs.YtagpimahicgkmaaDoor
