/- Walk: wal.entries. -/
import Derived.Test.YtagpimahicgkmaaDoorWalR
import Derived.Test.YtagpimahicgkmaaDoorWalPl
namespace Go.Proofs.YtagpimahicgkmaaDoor
open Go.RowKit

def wrC (x : Wr) : List Value := [.int .i64 x.at_, .string x.data]
theorem Tryd.elWr : Elem Tryd.prog 23 38 2 24 wrC :=
  Elem.of (z := .agg #[.int .i64 0, .string ⟨#[]⟩]) (by kernel_rfl) (by kernel_rfl) rfl (by omega) (fun _ => rfl)
theorem wrC_one (l : List Wr) : ∀ u ∈ l.flatMap wrC, u.oneCell' = true := by
  intro u hu
  obtain ⟨x, _, hx⟩ := List.mem_flatMap.1 hu
  simp only [wrC, List.mem_cons, List.not_mem_nil, or_false] at hx
  rcases hx with rfl | rfl <;> rfl
theorem run_mkWrN (n : Nat) (hn : n ≤ 1000) : ∃ cs : Array Value, cs.size = n * 2 ∧ ∀ W : World, (Instr.makeSlice 23 (.int .i64 0) (.int .i64 (n : Int))).run Tryd.prog W =
    .ok (.slice (some ⟨W.heap.size, 0, none⟩) 0 n) (W.alloc (.cells cs 38)) := by
  obtain ⟨i, hi, hz, hs, hb⟩ := info_parts Tryd.infoWr
  refine ⟨madeCells #[.int .i64 0, .string .empty] (n * 2), size_madeCells _ _, fun W => ?_⟩
  have := run_make (P := Tryd.prog) W 23 38 i _ Tryd.underlying23 hi hz .i64 .i64 0 (n : Int) (by omega) (by omega) (by rw [hb]; omega) (by omega)
  rw [this, hs]
  rfl
theorem bits_or_i64_nat (a b : Nat) (ha : a < 4611686018427387904) (hb : b < 4611686018427387904) : bits .or .i64 (a : Int) (b : Int) = ((a ||| b : Nat) : Int) := by
  have hx : a ||| b < 2 ^ 62 := Nat.or_lt_two_pow (by omega) (by omega)
  have h1 : (BitVec.ofInt 64 (a : Int)).toNat = a := by
    rw [BitVec.ofInt_natCast, BitVec.toNat_ofNat]; exact Nat.mod_eq_of_lt (by omega)
  have h2 : (BitVec.ofInt 64 (b : Int)).toNat = b := by
    rw [BitVec.ofInt_natCast, BitVec.toNat_ofNat]; exact Nat.mod_eq_of_lt (by omega)
  show IntKind.i64.wrap ((BitVec.ofInt 64 (a : Int) ||| BitVec.ofInt 64 (b : Int)).toNat : Int) = _
  rw [BitVec.toNat_or, h1, h2]
  exact IntWalk.i64_in _ (by omega)
theorem or_byte (a : Nat) (b : UInt8) (ha : a < 4294967296) : bits .or .i64 ((a : Int) * 256) (b.toNat : Int) = ((a * 256 + b.toNat : Nat) : Int) := by
  have hb := b.toNat_lt
  rw [show (a : Int) * 256 = ((a * 256 : Nat) : Int) by omega]
  rw [bits_or_i64_nat _ _ (by omega) (by omega)]
  have := Nat.shiftLeft_add_eq_or_of_lt (i := 8) (b := b.toNat) (by omega) a
  rw [Nat.shiftLeft_eq] at this
  rw [← this]
/-- The last j of the first four bytes, as a number. -/
def hiTo (s : ByteArray) : Nat → Nat
  | 0 => 0
  | j + 1 => hiTo s j * 256 + (byteAt s (3 - j)).toNat
theorem hiTo_le (s : ByteArray) : ∀ j, j ≤ 4 → hiTo s j < 256 ^ j
  | 0, _ => by simp [hiTo]
  | j + 1, h => by
    have ih := hiTo_le s j (by omega)
    have := (byteAt s (3 - j)).toNat_lt
    rw [hiTo, Nat.pow_succ]; omega
theorem hiTo_lt (s : ByteArray) (j : Nat) (h : j ≤ 4) : hiTo s j < 4294967296 := by
  have := hiTo_le s j h
  have h2 : 256 ^ j ≤ 256 ^ 4 := Nat.pow_le_pow_right (by omega) h
  omega
theorem hiTo_four (s : ByteArray) : hiTo s 4 = le4 s := by
  simp only [hiTo, le4, Nat.sub_zero, Nat.reduceSub]; omega
theorem join_len (xs : List ByteArray) (h : ∀ x ∈ xs, x.size = 64) : (Lib.join (xs.map (·.data.toList)) []).length = 64 * xs.length := by
  rw [join_flat]
  induction xs with
  | nil => rfl
  | cons x xs ih =>
    have hx : x.data.toList.length = 64 := by rw [Array.length_toList]; exact h x (by simp)
    rw [List.map_cons, List.flatten_cons, List.length_append, ih (fun y hy => h y (by simp [hy])), hx, List.length_cons]; omega
def entR (c : List ByteArray) : List Wr := if entriesB c then entL c (entN c) else []
theorem entR_no {c : List ByteArray} (h : entriesB c = false) : entR c = [] := by unfold entR; rw [h]; rfl
theorem entR_yes {c : List ByteArray} (h : entriesB c = true) : entR c = entL c (entN c) := by unfold entR; rw [h]; rfl
theorem atS_lt {c : List ByteArray} {n : Nat} (h : n < c.length) : c[n]? = some (atS c n) := by
  unfold atS; rw [List.getD_eq_getElem?_getD, List.getElem?_eq_getElem h]; rfl
theorem atS_mem {c : List ByteArray} {n : Nat} (h : n < c.length) : atS c n ∈ c := List.mem_of_getElem? (atS_lt h)
theorem strs_atS {c : List ByteArray} {n : Nat} (h : n < c.length) : (strs c)[n]? = some (.string (atS c n)) := by
  unfold strs; rw [List.getElem?_map, atS_lt h]; rfl
theorem str_eq {a b : ByteArray} (h : (a.toList == b.toList) = true) : a = b := by
  rw [beq_iff_eq, ByteArray.toList_eq, ByteArray.toList_eq] at h
  obtain ⟨a⟩ := a
  obtain ⟨b⟩ := b
  congr 1
  exact Array.toList_inj.1 h
theorem str_ne {a b : ByteArray} (h : (a.toList == b.toList) = false) : a ≠ b := fun e => by subst e; simp at h
theorem entB_no {c : List ByteArray} {i n : Nat} (hq : entN c = n) (hi : i < n) (h : entOk c i = false) : entriesB c = false := by
  unfold entriesB
  have : (List.range (entN c)).all (entOk c) = false := by rw [List.all_eq_false]; exact ⟨i, by rw [hq]; exact List.mem_range.2 hi, by simp [h]⟩
  rw [this, Bool.and_false]
theorem entB_yes {c : List ByteArray} {n : Nat} (hq : entN c = n) (h1 : 1 ≤ n) (h2 : n ≤ 30) (h3 : atS c 0 = entHead c) (h : (List.range n).all (entOk c) = true) : entriesB c = true := by
  unfold entriesB
  rw [hq, decide_eq_true h1, decide_eq_true h2, decide_eq_true h3, h]; rfl
theorem entL_len (c : List ByteArray) (i : Nat) : (entL c i).length = i := by simp [entL]
theorem entL_succ (c : List ByteArray) (i : Nat) : entL c (i + 1) = entL c i ++ [entWr c i] := by simp [entL, List.range_succ]
theorem all_succ {p : Nat → Bool} {i : Nat} (h : (List.range i).all p = true) (hp : p i = true) : (List.range (i + 1)).all p = true := by
  rw [List.range_succ, List.all_append, h]; simp [hp]
theorem ret_sb {r : Value} {a b : Bool} (h : a = b) : Ending.returned (.tuple #[r, .bool a]) = .returned (.tuple #[r, .bool b]) := by rw [h]

set_option maxRecDepth 100000 in
set_option maxHeartbeats 4000000 in
theorem entries_any (V : List Nat) (c : List ByteArray) (v : Value) (w : World) (ht : Tabs w) (h : StrsAt [] w v c) (hV : Old V w) (h64 : ∀ s ∈ c, s.size = 64) (hlo : 61 < c.length) (hhi : c.length ≤ 1024) :
    Calls Tryd.prog 51 #[v] w fun e w' => ∃ r, e = .returned (.tuple #[r, .bool (entriesB c)]) ∧ WrsAt V w' r (entR c) ∧ Kept w w' := by
  have HT := Lib.hid ht
  have HV := Lib.hid hV
  have H64 := Lib.hid h64
  obtain ⟨A, cp, rfl, hc1, hc2, hrow⟩ := h
  unfold maxLen at hc2
  obtain ⟨b, o, rfl, hb, _, hcs⟩ := hrow (by rw [strs_length]; omega)
  have HCS := Lib.hid hcs
  have g0 := hcs 0 _ (strs_atS (n := 0) (by omega))
  rw [Nat.add_zero] at g0
  have hsz0 : (atS c 0).size = 64 := h64 _ (atS_mem (by omega))
  clear hcs hrow ht hV h64
  have hq : entN c = (atS c 0)[1].toNat := by unfold entN; rw [byteAt_lt (by omega)]
  have hnb := (atS c 0)[1].toNat_lt
  have hwn : wrap64 ((atS c 0)[1].toNat : Int) = ((atS c 0)[1].toNat : Int) := IntWalk.wrap64_in _ (by omega)
  go_enter Tryd.func51, Tryd.ntmps51
  have K : Kept w w := Kept.refl w
  go_upto_region 2 with fail
  clear hwn
  generalize ((atS c 0)[1]'(by omega)).toNat = n at *
  have HQ := Lib.hid hq
  clear hq
  by_cases hn1 : n < 1
  · have hn1' : (n : Int) < 1 := by omega
    have HE : Hid (entriesB c = false) := by show _ = _; unfold entriesB; rw [HQ.out, decide_eq_false (by omega)]; rfl
    go_wp2
    go_ret2
    exact ⟨_, ret_sb HE.out.symm, by rw [entR_no HE.out]; exact wrsAt_nil _ _, K⟩
  have hn1' : ¬ (n : Int) < 1 := by omega
  by_cases hn2 : 30 < n
  · have hn2' : (30 : Int) < (n : Int) := by omega
    have HE : Hid (entriesB c = false) := by show _ = _; unfold entriesB; rw [HQ.out, decide_eq_false (show ¬ n ≤ 30 by omega), Bool.and_false]; rfl
    go_wp2
    go_ret2
    exact ⟨_, ret_sb HE.out.symm, by rw [entR_no HE.out]; exact wrsAt_nil _ _, K⟩
  have hn2' : ¬ (30 : Int) < (n : Int) := by omega
  have j1 : IntKind.i64.wrap (2 * (n : Int)) = 2 * (n : Int) := IntWalk.i64_in _ (by omega)
  have j2 : IntKind.i64.wrap (1 + 2 * (n : Int)) = 1 + 2 * (n : Int) := IntWalk.i64_in _ (by omega)
  have j3 : (0 : Int) ≤ 2 * (n : Int) := by omega
  have j4 : (1 : Int) ≤ 1 + 2 * (n : Int) := by omega
  have j5 : 1 + 2 * (n : Int) ≤ (c.length : Int) := by omega
  have hjl : (Lib.join ((((c.drop 1).take (2 * n)).map (·.data.toList))) []).length ≤ 64 * 60 := by
    rw [join_len _ (fun x hx => H64.out x (List.mem_of_mem_drop (List.mem_of_mem_take hx))), List.length_take]; omega
  have HJ : Hid (∀ w', Kept w w' → Calls Tryd.prog 77 #[.slice (some ⟨b, o + 1, none⟩) (2 * n) (cp - 1), .string ⟨#[]⟩] w' fun e w1 => e = .returned (.string (joinB ((c.drop 1).take (2 * n)))) ∧ Kept w' w1) := fun w' k => by
    have := Tryd.strings_Join b (o + 1) (cp - 1) ((c.drop 1).take (2 * n)) ⟨#[]⟩ w' (fun j x hx => by
      rw [List.getElem?_take] at hx
      split at hx
      · rw [List.getElem?_drop] at hx
        rw [k.cell (p := ⟨b, _, none⟩) hb, Nat.add_assoc]
        exact HCS.out (1 + j) _ (by unfold strs; rw [List.getElem?_map, hx]; rfl)
      · cases hx) (Nat.lt_of_lt_of_le hb k.size) (by rw [List.length_take]; omega) (by rw [List.length_take, List.length_drop]; omega) (Nat.le_trans hjl (by omega))
    rw [show ((c.drop 1).take (2 * n)).length = 2 * n by rw [List.length_take, List.length_drop]; omega] at this
    exact this
  have HEH : Hid (entHead c = hdr n (joinB ((c.drop 1).take (2 * n)))) := by show _ = _; unfold entHead; rw [HQ.out]
  have hjs : (joinB ((c.drop 1).take (2 * n))).size ≤ 1000000 := by
    show (Lib.join _ _).toArray.size ≤ _
    rw [List.size_toArray]; omega
  generalize joinB ((c.drop 1).take (2 * n)) = jb at *
  have HJS := Lib.hid hjs
  have HH : Hid (∀ w', Kept w w' → Calls Tryd.prog 47 #[.int .i64 (n : Int), .string jb] w' fun e w1 => e = .returned (.string (hdr n jb)) ∧ Kept w' w1) := fun w' k => header_any n jb (by omega) hjs w' (HT.out.kept k)
  generalize hdr n jb = hd at *
  generalize hs0 : atS c 0 = s0 at *
  have HS0 := Lib.hid hs0
  clear hjl hjs hs0
  obtain ⟨q, hq⟩ : ∃ q, (s0.toList == hd.toList) = q := ⟨_, rfl⟩
  have HQQ := Lib.hid hq
  have zb := hb
  clear hsz0
  go_upto_region 4 with fail
  have CX0 : ∀ W', Kept w W' → W'.cell? ⟨b, o, none⟩ = some (.string s0) := fun W' k => (k.cell (p := ⟨b, o, none⟩) hb).trans g0
  have i1 : 0 < c.length := by omega
  have i2 : (0 : Int) ≤ 1 + 2 * (n : Int) := by omega
  have i3 : 1 + 2 * (n : Int) ≤ (cp : Int) := by omega
  have i4 : max (1 + 2 * (n : Int)) 0 = 1 + 2 * (n : Int) := by omega
  have i5 : ¬ cp = 1 := by omega
  have i6 : (1 + 2 * (n : Int)).toNat = 2 * n + 1 := by omega
  refine wp_region_Z (S := fun W' => Kept w W') (Z := []) (by kernel_rfl) ((Kept.refl _).drew) (fun hHeld => ?_)
  have kr := (Kept.refl w).drew
  have Kr := K
  have zr := K.size
  replace K := Kr.trans kr
  generalize w.drew = w1 at *
  refine wpAnyZ_take (i := 0) (oi := { dst := some 21, op := Op.move (Operand.tmp 0), type := 22, pos := "wal.go:110", after := #[], guard := none }) (v := ?_) rfl (by kernel_rfl) (fun _ _ _ h => h) (Or.inl ⟨by rfl, ?_⟩) (by assumption) ?_
  rotate_left
  · (intro wz hSw; (try dsimp only at hSw); go_simp; (try with_reducible rfl))
  (try simp only [Act.put, List.setIfInBounds_toArray, List.set_cons_zero, List.set_cons_succ])
  refine wpAnyZ_take (i := 1) (oi := { dst := some 22, op := Op.indexAddr 22 (Operand.tmp 21) (Operand.const (Value.int IntKind.i64 0)), type := 0, pos := "wal.go:110", after := #[{ on := 0, ground := Ground.data }], guard := none }) (v := ?_) rfl (by kernel_rfl) (fun _ _ _ h => h) (Or.inl ⟨by rfl, ?_⟩) (by assumption) ?_
  rotate_left
  · (intro wz hSw; (try dsimp only at hSw); go_simp; (try with_reducible rfl))
  (try simp only [Act.put, List.setIfInBounds_toArray, List.set_cons_zero, List.set_cons_succ])
  refine wpAnyZ_take (i := 2) (oi := { dst := some 23, op := Op.load 9 (Operand.tmp 22), type := 9, pos := "wal.go:110", after := #[{ on := 1, ground := Ground.data }], guard := none }) (v := ?_) rfl (by kernel_rfl) (fun _ _ _ h => h) (Or.inl ⟨by rfl, ?_⟩) (by assumption) ?_
  rotate_left
  · (intro wz hSw; (try dsimp only at hSw); go_simp; (try with_reducible rfl))
  (try simp only [Act.put, List.setIfInBounds_toArray, List.set_cons_zero, List.set_cons_succ])
  refine wpAnyZ_take (i := 3) (oi := { dst := some 24, op := Op.move (Operand.tmp 4), type := 3, pos := "wal.go:110", after := #[], guard := none }) (v := ?_) rfl (by kernel_rfl) (fun _ _ _ h => h) (Or.inl ⟨by rfl, ?_⟩) (by assumption) ?_
  rotate_left
  · (intro wz hSw; (try dsimp only at hSw); go_simp; (try with_reducible rfl))
  (try simp only [Act.put, List.setIfInBounds_toArray, List.set_cons_zero, List.set_cons_succ])
  refine wpAnyZ_take (i := 4) (oi := { dst := some 25, op := Op.move (Operand.tmp 0), type := 22, pos := "wal.go:110", after := #[], guard := none }) (v := ?_) rfl (by kernel_rfl) (fun _ _ _ h => h) (Or.inl ⟨by rfl, ?_⟩) (by assumption) ?_
  rotate_left
  · (intro wz hSw; (try dsimp only at hSw); go_simp; (try with_reducible rfl))
  (try simp only [Act.put, List.setIfInBounds_toArray, List.set_cons_zero, List.set_cons_succ])
  refine wpAnyZ_take (i := 5) (oi := { dst := some 26, op := Op.move (Operand.tmp 4), type := 3, pos := "wal.go:110", after := #[], guard := none }) (v := ?_) rfl (by kernel_rfl) (fun _ _ _ h => h) (Or.inl ⟨by rfl, ?_⟩) (by assumption) ?_
  rotate_left
  · (intro wz hSw; (try dsimp only at hSw); go_simp; (try with_reducible rfl))
  (try simp only [Act.put, List.setIfInBounds_toArray, List.set_cons_zero, List.set_cons_succ])
  refine wpAnyZ_take (i := 6) (oi := { dst := some 27, op := Op.binOp BinOp.mul 3 (Operand.const (Value.int IntKind.i64 2)) (Operand.tmp 26) 3, type := 3, pos := "wal.go:110", after := #[{ on := 5, ground := Ground.data }], guard := none }) (v := ?_) rfl (by kernel_rfl) (fun _ _ _ h => h) (Or.inl ⟨by rfl, ?_⟩) (by assumption) ?_
  rotate_left
  · (intro wz hSw; (try dsimp only at hSw); go_simp; (try with_reducible rfl))
  (try simp only [Act.put, List.setIfInBounds_toArray, List.set_cons_zero, List.set_cons_succ])
  refine wpAnyZ_take (i := 7) (oi := { dst := some 28, op := Op.binOp BinOp.add 3 (Operand.const (Value.int IntKind.i64 1)) (Operand.tmp 27) 3, type := 3, pos := "wal.go:110", after := #[{ on := 6, ground := Ground.data }], guard := none }) (v := ?_) rfl (by kernel_rfl) (fun _ _ _ h => h) (Or.inl ⟨by rfl, ?_⟩) (by assumption) ?_
  rotate_left
  · (intro wz hSw; (try dsimp only at hSw); go_simp; (try with_reducible rfl))
  (try simp only [Act.put, List.setIfInBounds_toArray, List.set_cons_zero, List.set_cons_succ])
  refine wpAnyZ_take (i := 8) (oi := { dst := some 29, op := Op.slice 22 (Operand.tmp 25) (some (Operand.const (Value.int IntKind.i64 1))) (some (Operand.tmp 28)) none, type := 22, pos := "wal.go:110", after := #[{ on := 4, ground := Ground.data }, { on := 7, ground := Ground.data }], guard := none }) (v := ?_) rfl (by kernel_rfl) (fun _ _ _ h => h) (Or.inl ⟨by rfl, ?_⟩) (by assumption) ?_
  rotate_left
  · (intro wz hSw; (try dsimp only at hSw); go_simp; (try with_reducible rfl))
  (try simp only [Act.put, List.setIfInBounds_toArray, List.set_cons_zero, List.set_cons_succ])
  refine wpAnyZ_ready (rs := [9]) (by kernel_rfl) (by simp) ?_
  refine AllReadyZ.cons (o := { dst := some 30, op := Op.call { callee := Callee.value (Operand.func 77), args := #[Operand.tmp 29, Operand.const (Value.string { data := #[] })], argTypes := #[22, 9] }, type := 9, pos := "wal.go:110", after := #[{ on := 8, ground := Ground.data }], guard := none }) rfl (fun KK hKK => ?_) AllReadyZ.nil
  go_simp
  refine (HJ.out w1 K).mono ?_
  rintro e w2 ⟨rfl, hk⟩
  clear hHeld
  replace kr := kr.trans hk
  replace K := Kr.trans kr
  clear hk
  go_wp2_with fail
  refine hKK.out _ _ ?_ (fun hHeld => ?_)
  · exact kr
  clear hKK KK
  (try simp only [Act.put, List.setIfInBounds_toArray, List.set_cons_zero, List.set_cons_succ])
  refine wpAnyZ_ready (rs := [10]) (by kernel_rfl) (by simp) ?_
  refine AllReadyZ.cons (o := { dst := some 31, op := Op.call { callee := Callee.value (Operand.func 47), args := #[Operand.tmp 24, Operand.tmp 30], argTypes := #[3, 9] }, type := 9, pos := "wal.go:110", after := #[{ on := 3, ground := Ground.data }, { on := 9, ground := Ground.data }, { on := 9, ground := Ground.chain }], guard := none }) rfl (fun KK hKK => ?_) AllReadyZ.nil
  go_simp
  refine (HH.out w2 K).mono ?_
  rintro e w3 ⟨rfl, hk⟩
  clear hHeld
  replace kr := kr.trans hk
  replace K := Kr.trans kr
  clear hk
  go_wp2_with fail
  refine hKK.out _ _ ?_ (fun hHeld => ?_)
  · exact kr
  clear hKK KK
  (try simp only [Act.put, List.setIfInBounds_toArray, List.set_cons_zero, List.set_cons_succ])
  refine wpAnyZ_take (i := 11) (oi := { dst := some 32, op := Op.binOp BinOp.neq 9 (Operand.tmp 23) (Operand.tmp 31) 9, type := 4, pos := "wal.go:110", after := #[{ on := 2, ground := Ground.data }, { on := 10, ground := Ground.data }], guard := none }) (v := ?_) rfl (by kernel_rfl) (fun _ _ _ h => h) (Or.inl ⟨by rfl, ?_⟩) (by assumption) ?_
  rotate_left
  · (intro wz hSw; (try dsimp only at hSw); go_simp; (try with_reducible rfl))
  (try simp only [Act.put, List.setIfInBounds_toArray, List.set_cons_zero, List.set_cons_succ])
  refine wpAnyZ_done (by kernel_rfl) ?_ _
  clear Kr zr hHeld kr
  clear i1 i2 i3 i4 i5 i6 j1 j2 j3 j4 j5 g0
  cases q with
  | false =>
    have HE : Hid (entriesB c = false) := by show _ = _; unfold entriesB; rw [HEH.out, HS0.out, decide_eq_false (str_ne HQQ.out), Bool.and_false]; rfl
    go_wp2
    go_ret2
    exact ⟨_, ret_sb HE.out.symm, by rw [entR_no HE.out]; exact wrsAt_nil _ _, K⟩
  | true =>
    have HHD : Hid (atS c 0 = entHead c) := by show _ = _; rw [HEH.out, HS0.out]; exact str_eq HQQ.out
    clear HEH HQQ HS0
    obtain ⟨cs, hcs, hmk⟩ := run_mkWrN n (by omega)
    have HO0 : Hid ((w3.alloc (.cells cs 38)).ownsRow w3.heap.size 38 2 (.slice (some ⟨w3.heap.size, 0, none⟩) (entL c 0).length n) (entL c 0).length ((entL c 0).flatMap wrC)) := World.ownsRow_made w3 cs _ (Nat.le_refl _) (by unfold maxLen; omega) hcs
    have hg0 : w.heap.size ≤ w3.heap.size := K.size
    clear hcs
    go_wp2
    replace K := K.alloc (.cells cs 38)
    have hz0 : w3.heap.size < (w3.alloc (.cells cs 38)).heap.size := by simp
    generalize (w3.alloc (.cells cs 38)) = w4 at *
    generalize w3.heap.size = g at *
    clear hmk
    go_loopw [5, 36] (fun lv iv wq => ∃ i : Nat, i ≤ n ∧ iv = .int .i64 i ∧ lv = .slice (some ⟨g, 0, none⟩) (entL c i).length n ∧ wq.ownsRow g 38 2 (.slice (some ⟨g, 0, none⟩) (entL c i).length n) (entL c i).length ((entL c i).flatMap wrC) ∧ Hid ((List.range i).all (entOk c) = true) ∧ Kept w wq ∧ g < wq.heap.size) (fun _ iv _ => n - (intOf iv).toNat)
    case atStart => exact ⟨0, Nat.zero_le _, rfl, rfl, HO0.out, rfl, K, hz0⟩
    case round =>
      clear HO0 K hz0
      obtain ⟨i, hi, rfl, rfl, ho, HA, K, hz⟩ := hrel
      have HO := Lib.hid ho
      clear ho
      by_cases hlt : i < n
      · have g1 := (K.cell (p := ⟨b, o + (1 + 2 * i), none⟩) hb).trans (HCS.out _ _ (strs_atS (n := 1 + 2 * i) (by omega)))
        have g2 := (K.cell (p := ⟨b, o + (2 + 2 * i), none⟩) hb).trans (HCS.out _ _ (strs_atS (n := 2 + 2 * i) (by omega)))
        have hsz : (atS c (1 + 2 * i)).size = 64 := H64.out _ (atS_mem (by omega))
        have zb := Nat.lt_of_lt_of_le hb K.size
        have HEO : Hid (∀ a, le4 (atS c (1 + 2 * i)) = a → entOk c i = (decide (61 ≤ a) && decide (a < c.length) && decide (atS c (1 + 2 * i) = dst a))) := fun a e => by unfold entOk; rw [e]
        have HEW : Hid (∀ a, le4 (atS c (1 + 2 * i)) = a → entL c (i + 1) = entL c i ++ [⟨a, atS c (2 + 2 * i)⟩]) := fun a e => by rw [entL_succ, entWr, e]
        generalize atS c (1 + 2 * i) = s at *
        generalize atS c (2 + 2 * i) = x at *
        have HLL := Lib.hid (entL_len c i)
        generalize entL c i = L at *
        have j1 : IntKind.i64.wrap (2 * (i : Int)) = 2 * (i : Int) := IntWalk.i64_in _ (by omega)
        have j2 : IntKind.i64.wrap (1 + 2 * (i : Int)) = 1 + 2 * (i : Int) := IntWalk.i64_in _ (by omega)
        have j3 : IntKind.i64.wrap (2 + 2 * (i : Int)) = 2 + 2 * (i : Int) := IntWalk.i64_in _ (by omega)
        have k1 : (0 : Int) ≤ 1 + 2 * (i : Int) := by omega
        have k2 : (0 : Int) ≤ 2 + 2 * (i : Int) := by omega
        have k3 : 1 + 2 * (i : Int) < (c.length : Int) := by omega
        have k4 : 2 + 2 * (i : Int) < (c.length : Int) := by omega
        have k5 : (1 + 2 * (i : Int)).toNat = 1 + 2 * i := by omega
        have k6 : (2 + 2 * (i : Int)).toNat = 2 + 2 * i := by omega
        go_wp2
        have HI : Hid (0 = hiTo s 0) := rfl
        go_loop [8, 9] (fun av kv => ∃ (j m : Nat), m + j = 4 ∧ kv = .int .i64 ((m : Int) - 1) ∧ av = .int .i64 (hiTo s j)) (fun _ kv => (intOf kv + 1).toNat)
        case atStart => exact ⟨0, 4, rfl, rfl, rfl⟩
        case round =>
          clear HI
          obtain ⟨j, m, hjm, rfl, rfl⟩ := hrel
          by_cases hm : 0 < m
          · obtain ⟨p, rfl⟩ : ∃ p, m = p + 1 := ⟨m - 1, by omega⟩
            have e1 : ((p + 1 : Nat) : Int) - 1 = (p : Int) := by omega
            rw [e1]
            clear e1
            have hp : p < s.size := by omega
            have hlt4 := hiTo_lt s j (by omega)
            have hor := or_byte (hiTo s j) s[p] hlt4
            have HHS : Hid (hiTo s (j + 1) = hiTo s j * 256 + s[p].toNat) := by show _ = _; rw [hiTo, show 3 - j = p by omega, byteAt_lt hp]
            generalize hiTo s j * 256 + s[p].toNat = a2 at *
            have hsb := s[p].toNat_lt
            have hwb : wrap64 (s[p].toNat : Int) = (s[p].toNat : Int) := IntWalk.wrap64_in _ (by omega)
            generalize hiTo s j = a at *
            go_wp2
            go_round
            case rel => (refine ⟨trivial, ?_⟩; (repeat apply Exists.intro); exact ⟨⟨j + 1, p, by omega, rfl, by rw [HHS.out]⟩, rfl⟩)
            case measure => simp [intOf]
          · obtain rfl : m = 0 := by omega
            obtain rfl : j = 4 := by omega
            have hal := hiTo_lt s 4 (by omega)
            rw [hiTo_four] at hal ⊢
            have HE0 := Lib.hid (HEO.out _ rfl)
            have HE1 := Lib.hid (HEW.out _ rfl)
            generalize le4 s = a at *
            clear hjm hm HEO HEW
            by_cases h61 : a < 61
            · have h61' : (a : Int) < 61 := by omega
              have HE : Hid (entriesB c = false) := by show _ = _; exact entB_no HQ.out hlt (by rw [HE0.out, decide_eq_false (show ¬ 61 ≤ a by omega)]; rfl)
              go_wp2
              go_ret2
              exact ⟨_, ret_sb HE.out.symm, by rw [entR_no HE.out]; exact wrsAt_nil _ _, K⟩
            · have h61' : ¬ (a : Int) < 61 := by omega
              by_cases hac : a < c.length
              · have hac' : ¬ (a : Int) ≥ (c.length : Int) := by omega
                go_wp2_with fail
                refine (dst_any a _).mono ?_
                rintro e w9 ⟨rfl, hk⟩
                replace K := K.trans hk
                have hzk := hk.size
                replace HO := Lib.hid (ownsRow_kept HO.out hk)
                replace g2 := (hk.cell (p := ⟨b, o + (2 + 2 * i), none⟩) zb).trans g2
                have HDS := HE0.out
                rw [decide_eq_true (show 61 ≤ a by omega), decide_eq_true hac] at HDS
                replace HDS := Lib.hid HDS
                clear hk HE0
                generalize dst a = ds at *
                obtain ⟨q, hq⟩ : ∃ q, (s.toList == ds.toList) = q := ⟨_, rfl⟩
                have HQQ := Lib.hid hq
                cases q with
                | false =>
                  have HE : Hid (entriesB c = false) := by show _ = _; exact entB_no HQ.out hlt (by rw [HDS.out, decide_eq_false (str_ne HQQ.out)]; rfl)
                  go_wp2
                  go_ret2
                  exact ⟨_, ret_sb HE.out.symm, by rw [entR_no HE.out]; exact wrsAt_nil _ _, K⟩
                | true =>
                  have zb9 := Nat.lt_of_lt_of_le zb hzk
                  go_upto_region 19 with (at_builtin; go_must (refine Tryd.elWr.wpList_fit rfl (.tmp 70) (.tmp 79) rfl g g n L rfl (HO.out.alloc _) w9.heap.size 1 [⟨a, x⟩] rfl (Own.new w9 _ _) (wrC_one _) (by rw [HLL.out]; simp only [List.length_cons, List.length_nil]; omega) ?_; intro w10 hap hgr))
                  have HES := HE1.out
                  rw [← HES] at hap
                  have HO2 := Lib.hid hap
                  have HLL2 : Hid (L.length + 1 = (entL c (i + 1)).length) := by show _ = _; rw [HES, List.length_append]; rfl
                  have HA2 := Lib.hid (all_succ HA.out (by rw [HDS.out, decide_eq_true (str_eq HQQ.out)]; rfl))
                  have hz2 : g < w10.heap.size := by have := hgr.size; simp at this; omega
                  have K2 := (K.alloc _).grown hgr (fun k e => by injection e with e; omega)
                  clear hap hgr K HES
                  go_wp2
                  go_roundw
                  case rel => ((repeat apply Exists.intro); exact ⟨⟨i + 1, by omega, by go_num, by rw [HLL2.out], HO2.out, HA2, K2, hz2⟩, rfl⟩)
                  case measure => simp [intOf]; omega
              · have hac' : (a : Int) ≥ (c.length : Int) := by omega
                have HE : Hid (entriesB c = false) := by show _ = _; exact entB_no HQ.out hlt (by rw [HE0.out, decide_eq_false (show ¬ a < c.length from hac), Bool.and_false]; rfl)
                go_wp2
                go_ret2
                exact ⟨_, ret_sb HE.out.symm, by rw [entR_no HE.out]; exact wrsAt_nil _ _, K⟩
      · obtain rfl : i = n := by omega
        have HE : Hid (entriesB c = true) := entB_yes HQ.out (by omega) (by omega) HHD.out HA.out
        have HNN : Hid ((entL c i).length = i) := entL_len c i
        go_wp2
        go_ret2
        refine ⟨_, ret_sb HE.out.symm, ?_, K⟩
        rw [entR_yes HE.out, HQ.out]
        obtain ⟨A9, c9, e9, h91, h92, h93⟩ := own_form (V := V) HO.out (fun j hj => by have := HV.out j hj; omega)
        exact ⟨A9, c9, e9, h91, h92, h93⟩
end Go.Proofs.YtagpimahicgkmaaDoor
