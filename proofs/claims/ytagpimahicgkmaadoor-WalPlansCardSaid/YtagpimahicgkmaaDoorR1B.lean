/- Walk: mailsackref01.Block. -/
import Derived.Test.YtagpimahicgkmaaDoorR1W
import Derived.Test.YtagpimahicgkmaaDoorMa
namespace Go.Proofs.YtagpimahicgkmaaDoor
open Go.RowKit

def uC (x : UInt32) : List Value := [u32v x]
theorem wv_uC (l : List UInt32) : wv l = l.flatMap uC := by
  induction l with
  | nil => rfl
  | cons a l ih => show _ :: wv l = _; rw [ih]; rfl
theorem uC_one (l : List UInt32) : ∀ u ∈ l.flatMap uC, u.oneCell' = true := by
  intro u hu
  obtain ⟨x, _, hx⟩ := List.mem_flatMap.1 hu
  simp only [uC, List.mem_cons, List.not_mem_nil, or_false] at hx
  subst hx; rfl
theorem Tryd.elU32w : Elem Tryd.prog 168 163 1 4 uC :=
  Elem.of (z := .int .u32 0) (by kernel_rfl) (by kernel_rfl) rfl (by omega) (fun _ => rfl)
theorem str_ix (w : World) (s : ByteArray) (k : Nat) (h : k < s.size) (i : Int) (e : i = (k : Int)) : (Instr.index 9 (.string s) (.int .i64 i)).run Tryd.prog w = .ok (.int .u8 ((byteAt s k).toNat : Int)) w := by
  subst e
  rw [run_index_string (P := Tryd.prog) (w := w) 9 s .i64 (k : Int) Tryd.underlying9, dif_pos ⟨by omega, by omega⟩]
  have e2 : (s[((k : Int)).toNat]'(by omega)) = byteAt s k := by
    rw [byteAt_lt h]
    simp
  rw [e2]
theorem own_some {w : World} {base size i cap n : Nat} {e : TypeId} {B : Option Addr} {xs : List Value} (h : w.ownsRow base e size (.slice B i cap) n xs) (hx : 0 < xs.length) (hn : 0 < n) : ∃ g, B = some ⟨g, 0, none⟩ ∧ g < w.heap.size ∧ (∀ (j : Nat) (u : Value), xs[j]? = some u → w.cell? ⟨g, j, none⟩ = some u) ∧ n ≤ cap ∧ cap ≤ maxLen ∧ base ≤ g := by
  obtain ⟨A9, c9, e9, h91, h92, h93⟩ := own_form (V := []) h (by simp)
  injection e9 with a1 a2 a3
  subst a1 a3
  obtain ⟨b, o, rfl, hb, _, hc⟩ := h93 hx
  rcases h.2 with ⟨hv, h0⟩ | ⟨g, c', cur, hv, hbb, _⟩
  · omega
  · injection hv with e1 e2 e3
    injection e1 with e1
    injection e1 with e4 e5
    subst e4 e5
    exact ⟨b, rfl, hb, fun j u hu => by have := hc j u hu; rwa [Nat.zero_add] at this, h91, h92, hbb⟩
theorem chose_bits (e f g : UInt32) : bits .or .u32 (bits .and .u32 (e.toNat : Int) (f.toNat : Int)) (bits .and .u32 ((4294967295 - (e.toNat : Int)) % 4294967296) (g.toNat : Int)) = ((chose e f g).toNat : Int) := by
  have h : (4294967295 - (e.toNat : Int)) % 4294967296 = ((~~~e).toNat : Int) := by
    rw [← not_sub e, UInt32.toNat_sub]
    have := u32_lt e
    show _ = (((4294967296 - e.toNat + 4294967295) % 4294967296 : Nat) : Int)
    omega
  rw [h, uand, uand, uor, choose_eq]
theorem most_bits (a b c : UInt32) : bits .or .u32 (bits .or .u32 (bits .and .u32 (a.toNat : Int) (b.toNat : Int)) (bits .and .u32 (a.toNat : Int) (c.toNat : Int))) (bits .and .u32 (b.toNat : Int) (c.toNat : Int)) = ((majo a b c).toNat : Int) := by
  rw [uand, uand, uand, uor, uor, most_eq]

set_option maxRecDepth 100000 in
set_option maxHeartbeats 4000000 in
theorem rblock_n (s : ByteArray) (st : St) (Fw : Nat → List UInt32) (R : Nat → St) (n : Nat) (KA HA : Option Addr) (kc hc : Nat) (w : World) (hs : s.size = 64) (hn : n = 64) (hF0 : Fw 0 = []) (hFs : ∀ k, k < 64 → Fw (k + 1) = Fw k ++ [nextW s (Fw k) k]) (hFl : ∀ k, k ≤ 64 → (Fw k).length = k)
    (hR0 : R 0 = st) (hRs : ∀ k, R (k + 1) = rnd (at32 K64 k) (at32 (Fw n) k) (R k)) (hk : Row [] w KA (wv K64)) (hh : Row [] w HA (stv st)) (hkc : 64 ≤ kc ∧ kc ≤ maxLen) (hhc : 8 ≤ hc ∧ hc ≤ maxLen) :
    Calls Tryd.prog 105 #[.slice KA 64 kc, .slice HA 8 hc, .string s] w fun e w' => ∃ A, e = .returned (.slice A 8 8) ∧ Row [] w' A (stv (addSt st (R n))) ∧ Kept w w' := by
  have HS := Lib.hid hs
  have HN := Lib.hid hn
  have HF0 := Lib.hid hF0
  have HFS := Lib.hid hFs
  have HFL := Lib.hid hFl
  have HR0 := Lib.hid hR0
  have HRS := Lib.hid hRs
  obtain ⟨kb, ko, rfl, hkb, _, hkr⟩ := hk (by rw [wv_len, K64_len]; decide)
  obtain ⟨hb, ho, rfl, hhb, _, hhr⟩ := hh (by show 0 < 8; decide)
  have HKR : Hid (∀ i, i < 64 → w.cell? ⟨kb, ko + i, none⟩ = some (u32v (at32 K64 i))) := fun i hi => hkr i _ (wv_at (by rw [K64_len]; exact hi))
  have HHR := Lib.hid hhr
  unfold maxLen at hkc hhc
  clear hn hF0 hFs hFl hR0 hRs hk hh hkr hhr
  go_enter Tryd.func105, Tryd.ntmps105
  go_wp2_with fail
  go_loopw [7, 8] (fun wv' iv wq => ∃ (i : Nat) (B : Option Addr) (cap : Nat), i ≤ 64 ∧ iv = .int .i64 i ∧ wv' = .slice B i cap ∧ Hid (wq.ownsRow w.heap.size 163 1 (.slice B i cap) (Fw i).length ((Fw i).flatMap uC)) ∧ Kept w wq) (fun _ iv _ => 64 - (intOf iv).toNat)
  case atStart => exact ⟨0, none, 0, Nat.zero_le _, rfl, rfl, by rw [HF0.out]; exact World.ownsRow_nil _ _ _ _, Kept.refl _⟩
  case round =>
    obtain ⟨i, B, cap, hi, rfl, rfl, HO, K⟩ := hrel
    have HFI : Hid ((Fw i).length = i) := HFL.out i hi
    by_cases hlt : i < 64
    · have HFN := Lib.hid (HFS.out i hlt)
      have HFI1 : Hid ((Fw (i + 1)).length = i + 1) := HFL.out (i + 1) hlt
      by_cases h16 : i < 16
      · skip
        have hs64 : s.size = 64 := HS.out
        have q1 : IntKind.i64.wrap (4 * (i : Int)) = 4 * (i : Int) := IntWalk.i64_in _ (by omega)
        have q2 : IntKind.i64.wrap (4 * (i : Int) + 1) = 4 * (i : Int) + 1 := IntWalk.i64_in _ (by omega)
        have q3 : IntKind.i64.wrap (4 * (i : Int) + 2) = 4 * (i : Int) + 2 := IntWalk.i64_in _ (by omega)
        have q4 : IntKind.i64.wrap (4 * (i : Int) + 3) = 4 * (i : Int) + 3 := IntWalk.i64_in _ (by omega)
        have x0 : ∀ w' : World, (Instr.index 9 (.string s) (.int .i64 (4 * (i : Int)))).run Tryd.prog w' = .ok (.int .u8 ((byteAt s (4 * i)).toNat : Int)) w' := fun w' => str_ix w' s _ (by omega) _ (by omega)
        have x1 : ∀ w' : World, (Instr.index 9 (.string s) (.int .i64 (4 * (i : Int) + 1))).run Tryd.prog w' = .ok (.int .u8 ((byteAt s (4 * i + 1)).toNat : Int)) w' := fun w' => str_ix w' s _ (by omega) _ (by omega)
        have x2 : ∀ w' : World, (Instr.index 9 (.string s) (.int .i64 (4 * (i : Int) + 2))).run Tryd.prog w' = .ok (.int .u8 ((byteAt s (4 * i + 2)).toNat : Int)) w' := fun w' => str_ix w' s _ (by omega) _ (by omega)
        have x3 : ∀ w' : World, (Instr.index 9 (.string s) (.int .i64 (4 * (i : Int) + 3))).run Tryd.prog w' = .ok (.int .u8 ((byteAt s (4 * i + 3)).toNat : Int)) w' := fun w' => str_ix w' s _ (by omega) _ (by omega)
        have hB : bits .or .u32 (bits .or .u32 (bits .or .u32 (IntKind.u32.wrap (IntKind.u32.wrap ((byteAt s (4 * i)).toNat : Int) * 16777216)) (IntKind.u32.wrap (IntKind.u32.wrap ((byteAt s (4 * i + 1)).toNat : Int) * 65536))) (IntKind.u32.wrap (IntKind.u32.wrap ((byteAt s (4 * i + 2)).toNat : Int) * 256))) (IntKind.u32.wrap ((byteAt s (4 * i + 3)).toNat : Int)) = ((word4 (byteAt s (4 * i)) (byteAt s (4 * i + 1)) (byteAt s (4 * i + 2)) (byteAt s (4 * i + 3))).toNat : Int) := by
          simp only [IntKind.wrap_u32']
          exact word_bits (byteAt s (4 * i)) (byteAt s (4 * i + 1)) (byteAt s (4 * i + 2)) (byteAt s (4 * i + 3))
        have HWF : Hid (Fw (i + 1) = Fw i ++ [word4 (byteAt s (4 * i)) (byteAt s (4 * i + 1)) (byteAt s (4 * i + 2)) (byteAt s (4 * i + 3))]) := by
          show _ = _
          rw [HFN.out, nextW, if_pos h16]; rfl
        clear HFN
        generalize byteAt s (4 * i) = y0 at *
        generalize byteAt s (4 * i + 1) = y1 at *
        generalize byteAt s (4 * i + 2) = y2 at *
        generalize byteAt s (4 * i + 3) = y3 at *
        generalize word4 y0 y1 y2 y3 = wd at *
        go_upto_region 6 with fail
        refine wp_region_Z (S := fun W' => Kept wr W') (Z := [31, 32]) (by kernel_rfl) ((Kept.refl wr).drew) (fun hHeld => ?_)
        have kr := (Kept.refl wr).drew
        have Kr := K
        have zr := K.size
        have HOr := HO
        replace HO := Lib.hid (ownsRow_kept HOr.out kr)
        replace K := Kr.trans kr
        generalize wr.drew = w1 at *
        refine wpAnyZ_take (i := 0) (oi := { dst := some 30, op := Op.move (Operand.tmp 7), type := 168, pos := "ref.go:31", after := #[], guard := none }) (v := ?_) rfl (by kernel_rfl) (fun _ _ _ h => h) (Or.inl ⟨by rfl, ?_⟩) (by assumption) ?_
        rotate_left
        · (intro wz hSw; (try dsimp only at hSw); go_simp; (try with_reducible rfl))
        (try simp only [Act.put, List.setIfInBounds_toArray, List.set_cons_zero, List.set_cons_succ])
        refine wpAnyZ_take (i := 1) (oi := { dst := some 31, op := Op.move (Operand.tmp 2), type := 9, pos := "ref.go:31", after := #[], guard := none }) (v := ?_) rfl (by kernel_rfl) (fun _ _ _ h => h) (Or.inl ⟨by rfl, ?_⟩) (by assumption) ?_
        rotate_left
        · (intro wz hSw; (try dsimp only at hSw); go_simp; (try with_reducible rfl))
        (try simp only [Act.put, List.setIfInBounds_toArray, List.set_cons_zero, List.set_cons_succ])
        refine wpAnyZ_take (i := 2) (oi := { dst := some 32, op := Op.move (Operand.tmp 8), type := 3, pos := "ref.go:31", after := #[], guard := none }) (v := ?_) rfl (by kernel_rfl) (fun _ _ _ h => h) (Or.inl ⟨by rfl, ?_⟩) (by assumption) ?_
        rotate_left
        · (intro wz hSw; (try dsimp only at hSw); go_simp; (try with_reducible rfl))
        (try simp only [Act.put, List.setIfInBounds_toArray, List.set_cons_zero, List.set_cons_succ])
        refine wpAnyZ_take (i := 3) (oi := { dst := some 33, op := Op.binOp BinOp.mul 3 (Operand.const (Value.int IntKind.i64 4)) (Operand.tmp 32) 3, type := 3, pos := "ref.go:31", after := #[{ on := 2, ground := Ground.data }], guard := none }) (v := ?_) rfl (by kernel_rfl) (fun _ _ _ h => h) (Or.inl ⟨by rfl, ?_⟩) (by assumption) ?_
        rotate_left
        · (intro wz hSw; (try dsimp only at hSw); go_simp; (try with_reducible rfl))
        (try simp only [Act.put, List.setIfInBounds_toArray, List.set_cons_zero, List.set_cons_succ])
        refine wpAnyZ_take (i := 4) (oi := { dst := some 34, op := Op.index 9 (Operand.tmp 31) (Operand.tmp 33), type := 5, pos := "ref.go:31", after := #[{ on := 1, ground := Ground.data }, { on := 3, ground := Ground.data }], guard := none }) (v := ?_) rfl (by kernel_rfl) (fun _ _ _ h => h) (Or.inl ⟨by rfl, ?_⟩) (by assumption) ?_
        rotate_left
        · (intro wz hSw; (try dsimp only at hSw); go_simp; (try with_reducible rfl))
        (try simp only [Act.put, List.setIfInBounds_toArray, List.set_cons_zero, List.set_cons_succ])
        refine wpAnyZ_take (i := 5) (oi := { dst := some 35, op := Op.convert 5 163 (Operand.tmp 34), type := 163, pos := "ref.go:31", after := #[{ on := 4, ground := Ground.data }], guard := none }) (v := ?_) rfl (by kernel_rfl) (fun _ _ _ h => h) (Or.inl ⟨by rfl, ?_⟩) (by assumption) ?_
        rotate_left
        · (intro wz hSw; (try dsimp only at hSw); go_simp; (try with_reducible rfl))
        (try simp only [Act.put, List.setIfInBounds_toArray, List.set_cons_zero, List.set_cons_succ])
        refine wpAnyZ_take (i := 6) (oi := { dst := some 36, op := Op.binOp BinOp.shl 163 (Operand.tmp 35) (Operand.const (Value.int IntKind.u64 24)) 138, type := 163, pos := "ref.go:31", after := #[{ on := 5, ground := Ground.data }], guard := none }) (v := ?_) rfl (by kernel_rfl) (fun _ _ _ h => h) (Or.inl ⟨by rfl, ?_⟩) (by assumption) ?_
        rotate_left
        · (intro wz hSw; (try dsimp only at hSw); go_simp; (try with_reducible rfl))
        (try simp only [Act.put, List.setIfInBounds_toArray, List.set_cons_zero, List.set_cons_succ])
        refine wpAnyZ_take (i := 7) (oi := { dst := some 37, op := Op.move (Operand.tmp 2), type := 9, pos := "ref.go:31", after := #[], guard := none }) (v := ?_) rfl (by kernel_rfl) (fun _ _ _ h => h) (Or.inl ⟨by rfl, ?_⟩) (by assumption) ?_
        rotate_left
        · (intro wz hSw; (try dsimp only at hSw); go_simp; (try with_reducible rfl))
        (try simp only [Act.put, List.setIfInBounds_toArray, List.set_cons_zero, List.set_cons_succ])
        refine wpAnyZ_take (i := 8) (oi := { dst := some 38, op := Op.move (Operand.tmp 8), type := 3, pos := "ref.go:31", after := #[], guard := none }) (v := ?_) rfl (by kernel_rfl) (fun _ _ _ h => h) (Or.inl ⟨by rfl, ?_⟩) (by assumption) ?_
        rotate_left
        · (intro wz hSw; (try dsimp only at hSw); go_simp; (try with_reducible rfl))
        (try simp only [Act.put, List.setIfInBounds_toArray, List.set_cons_zero, List.set_cons_succ])
        refine wpAnyZ_take (i := 9) (oi := { dst := some 39, op := Op.binOp BinOp.mul 3 (Operand.const (Value.int IntKind.i64 4)) (Operand.tmp 38) 3, type := 3, pos := "ref.go:31", after := #[{ on := 8, ground := Ground.data }], guard := none }) (v := ?_) rfl (by kernel_rfl) (fun _ _ _ h => h) (Or.inl ⟨by rfl, ?_⟩) (by assumption) ?_
        rotate_left
        · (intro wz hSw; (try dsimp only at hSw); go_simp; (try with_reducible rfl))
        (try simp only [Act.put, List.setIfInBounds_toArray, List.set_cons_zero, List.set_cons_succ])
        refine wpAnyZ_take (i := 10) (oi := { dst := some 40, op := Op.binOp BinOp.add 3 (Operand.tmp 39) (Operand.const (Value.int IntKind.i64 1)) 3, type := 3, pos := "ref.go:31", after := #[{ on := 9, ground := Ground.data }], guard := none }) (v := ?_) rfl (by kernel_rfl) (fun _ _ _ h => h) (Or.inl ⟨by rfl, ?_⟩) (by assumption) ?_
        rotate_left
        · (intro wz hSw; (try dsimp only at hSw); go_simp; (try with_reducible rfl))
        (try simp only [Act.put, List.setIfInBounds_toArray, List.set_cons_zero, List.set_cons_succ])
        refine wpAnyZ_take (i := 11) (oi := { dst := some 41, op := Op.index 9 (Operand.tmp 37) (Operand.tmp 40), type := 5, pos := "ref.go:31", after := #[{ on := 7, ground := Ground.data }, { on := 10, ground := Ground.data }], guard := none }) (v := ?_) rfl (by kernel_rfl) (fun _ _ _ h => h) (Or.inl ⟨by rfl, ?_⟩) (by assumption) ?_
        rotate_left
        · (intro wz hSw; (try dsimp only at hSw); go_simp; (try with_reducible rfl))
        (try simp only [Act.put, List.setIfInBounds_toArray, List.set_cons_zero, List.set_cons_succ])
        refine wpAnyZ_take (i := 12) (oi := { dst := some 42, op := Op.convert 5 163 (Operand.tmp 41), type := 163, pos := "ref.go:31", after := #[{ on := 11, ground := Ground.data }], guard := none }) (v := ?_) rfl (by kernel_rfl) (fun _ _ _ h => h) (Or.inl ⟨by rfl, ?_⟩) (by assumption) ?_
        rotate_left
        · (intro wz hSw; (try dsimp only at hSw); go_simp; (try with_reducible rfl))
        (try simp only [Act.put, List.setIfInBounds_toArray, List.set_cons_zero, List.set_cons_succ])
        refine wpAnyZ_take (i := 13) (oi := { dst := some 43, op := Op.binOp BinOp.shl 163 (Operand.tmp 42) (Operand.const (Value.int IntKind.u64 16)) 138, type := 163, pos := "ref.go:31", after := #[{ on := 12, ground := Ground.data }], guard := none }) (v := ?_) rfl (by kernel_rfl) (fun _ _ _ h => h) (Or.inl ⟨by rfl, ?_⟩) (by assumption) ?_
        rotate_left
        · (intro wz hSw; (try dsimp only at hSw); go_simp; (try with_reducible rfl))
        (try simp only [Act.put, List.setIfInBounds_toArray, List.set_cons_zero, List.set_cons_succ])
        refine wpAnyZ_take (i := 14) (oi := { dst := some 44, op := Op.binOp BinOp.or 163 (Operand.tmp 36) (Operand.tmp 43) 163, type := 163, pos := "ref.go:31", after := #[{ on := 6, ground := Ground.data }, { on := 13, ground := Ground.data }], guard := none }) (v := ?_) rfl (by kernel_rfl) (fun _ _ _ h => h) (Or.inl ⟨by rfl, ?_⟩) (by assumption) ?_
        rotate_left
        · (intro wz hSw; (try dsimp only at hSw); go_simp; (try with_reducible rfl))
        (try simp only [Act.put, List.setIfInBounds_toArray, List.set_cons_zero, List.set_cons_succ])
        refine wpAnyZ_take (i := 15) (oi := { dst := some 45, op := Op.move (Operand.tmp 2), type := 9, pos := "ref.go:31", after := #[], guard := none }) (v := ?_) rfl (by kernel_rfl) (fun _ _ _ h => h) (Or.inl ⟨by rfl, ?_⟩) (by assumption) ?_
        rotate_left
        · (intro wz hSw; (try dsimp only at hSw); go_simp; (try with_reducible rfl))
        (try simp only [Act.put, List.setIfInBounds_toArray, List.set_cons_zero, List.set_cons_succ])
        refine wpAnyZ_take (i := 16) (oi := { dst := some 46, op := Op.move (Operand.tmp 8), type := 3, pos := "ref.go:31", after := #[], guard := none }) (v := ?_) rfl (by kernel_rfl) (fun _ _ _ h => h) (Or.inl ⟨by rfl, ?_⟩) (by assumption) ?_
        rotate_left
        · (intro wz hSw; (try dsimp only at hSw); go_simp; (try with_reducible rfl))
        (try simp only [Act.put, List.setIfInBounds_toArray, List.set_cons_zero, List.set_cons_succ])
        refine wpAnyZ_take (i := 17) (oi := { dst := some 47, op := Op.binOp BinOp.mul 3 (Operand.const (Value.int IntKind.i64 4)) (Operand.tmp 46) 3, type := 3, pos := "ref.go:31", after := #[{ on := 16, ground := Ground.data }], guard := none }) (v := ?_) rfl (by kernel_rfl) (fun _ _ _ h => h) (Or.inl ⟨by rfl, ?_⟩) (by assumption) ?_
        rotate_left
        · (intro wz hSw; (try dsimp only at hSw); go_simp; (try with_reducible rfl))
        (try simp only [Act.put, List.setIfInBounds_toArray, List.set_cons_zero, List.set_cons_succ])
        refine wpAnyZ_take (i := 18) (oi := { dst := some 48, op := Op.binOp BinOp.add 3 (Operand.tmp 47) (Operand.const (Value.int IntKind.i64 2)) 3, type := 3, pos := "ref.go:31", after := #[{ on := 17, ground := Ground.data }], guard := none }) (v := ?_) rfl (by kernel_rfl) (fun _ _ _ h => h) (Or.inl ⟨by rfl, ?_⟩) (by assumption) ?_
        rotate_left
        · (intro wz hSw; (try dsimp only at hSw); go_simp; (try with_reducible rfl))
        (try simp only [Act.put, List.setIfInBounds_toArray, List.set_cons_zero, List.set_cons_succ])
        refine wpAnyZ_take (i := 19) (oi := { dst := some 49, op := Op.index 9 (Operand.tmp 45) (Operand.tmp 48), type := 5, pos := "ref.go:31", after := #[{ on := 15, ground := Ground.data }, { on := 18, ground := Ground.data }], guard := none }) (v := ?_) rfl (by kernel_rfl) (fun _ _ _ h => h) (Or.inl ⟨by rfl, ?_⟩) (by assumption) ?_
        rotate_left
        · (intro wz hSw; (try dsimp only at hSw); go_simp; (try with_reducible rfl))
        (try simp only [Act.put, List.setIfInBounds_toArray, List.set_cons_zero, List.set_cons_succ])
        refine wpAnyZ_take (i := 20) (oi := { dst := some 50, op := Op.convert 5 163 (Operand.tmp 49), type := 163, pos := "ref.go:31", after := #[{ on := 19, ground := Ground.data }], guard := none }) (v := ?_) rfl (by kernel_rfl) (fun _ _ _ h => h) (Or.inl ⟨by rfl, ?_⟩) (by assumption) ?_
        rotate_left
        · (intro wz hSw; (try dsimp only at hSw); go_simp; (try with_reducible rfl))
        (try simp only [Act.put, List.setIfInBounds_toArray, List.set_cons_zero, List.set_cons_succ])
        refine wpAnyZ_take (i := 21) (oi := { dst := some 51, op := Op.binOp BinOp.shl 163 (Operand.tmp 50) (Operand.const (Value.int IntKind.u64 8)) 138, type := 163, pos := "ref.go:31", after := #[{ on := 20, ground := Ground.data }], guard := none }) (v := ?_) rfl (by kernel_rfl) (fun _ _ _ h => h) (Or.inl ⟨by rfl, ?_⟩) (by assumption) ?_
        rotate_left
        · (intro wz hSw; (try dsimp only at hSw); go_simp; (try with_reducible rfl))
        (try simp only [Act.put, List.setIfInBounds_toArray, List.set_cons_zero, List.set_cons_succ])
        refine wpAnyZ_take (i := 22) (oi := { dst := some 52, op := Op.binOp BinOp.or 163 (Operand.tmp 44) (Operand.tmp 51) 163, type := 163, pos := "ref.go:31", after := #[{ on := 14, ground := Ground.data }, { on := 21, ground := Ground.data }], guard := none }) (v := ?_) rfl (by kernel_rfl) (fun _ _ _ h => h) (Or.inl ⟨by rfl, ?_⟩) (by assumption) ?_
        rotate_left
        · (intro wz hSw; (try dsimp only at hSw); go_simp; (try with_reducible rfl))
        (try simp only [Act.put, List.setIfInBounds_toArray, List.set_cons_zero, List.set_cons_succ])
        refine wpAnyZ_take (i := 23) (oi := { dst := some 53, op := Op.move (Operand.tmp 2), type := 9, pos := "ref.go:31", after := #[], guard := none }) (v := ?_) rfl (by kernel_rfl) (fun _ _ _ h => h) (Or.inl ⟨by rfl, ?_⟩) (by assumption) ?_
        rotate_left
        · (intro wz hSw; (try dsimp only at hSw); go_simp; (try with_reducible rfl))
        (try simp only [Act.put, List.setIfInBounds_toArray, List.set_cons_zero, List.set_cons_succ])
        refine wpAnyZ_take (i := 24) (oi := { dst := some 54, op := Op.move (Operand.tmp 8), type := 3, pos := "ref.go:31", after := #[], guard := none }) (v := ?_) rfl (by kernel_rfl) (fun _ _ _ h => h) (Or.inl ⟨by rfl, ?_⟩) (by assumption) ?_
        rotate_left
        · (intro wz hSw; (try dsimp only at hSw); go_simp; (try with_reducible rfl))
        (try simp only [Act.put, List.setIfInBounds_toArray, List.set_cons_zero, List.set_cons_succ])
        refine wpAnyZ_take (i := 25) (oi := { dst := some 55, op := Op.binOp BinOp.mul 3 (Operand.const (Value.int IntKind.i64 4)) (Operand.tmp 54) 3, type := 3, pos := "ref.go:31", after := #[{ on := 24, ground := Ground.data }], guard := none }) (v := ?_) rfl (by kernel_rfl) (fun _ _ _ h => h) (Or.inl ⟨by rfl, ?_⟩) (by assumption) ?_
        rotate_left
        · (intro wz hSw; (try dsimp only at hSw); go_simp; (try with_reducible rfl))
        (try simp only [Act.put, List.setIfInBounds_toArray, List.set_cons_zero, List.set_cons_succ])
        refine wpAnyZ_take (i := 26) (oi := { dst := some 56, op := Op.binOp BinOp.add 3 (Operand.tmp 55) (Operand.const (Value.int IntKind.i64 3)) 3, type := 3, pos := "ref.go:31", after := #[{ on := 25, ground := Ground.data }], guard := none }) (v := ?_) rfl (by kernel_rfl) (fun _ _ _ h => h) (Or.inl ⟨by rfl, ?_⟩) (by assumption) ?_
        rotate_left
        · (intro wz hSw; (try dsimp only at hSw); go_simp; (try with_reducible rfl))
        (try simp only [Act.put, List.setIfInBounds_toArray, List.set_cons_zero, List.set_cons_succ])
        refine wpAnyZ_take (i := 27) (oi := { dst := some 57, op := Op.index 9 (Operand.tmp 53) (Operand.tmp 56), type := 5, pos := "ref.go:31", after := #[{ on := 23, ground := Ground.data }, { on := 26, ground := Ground.data }], guard := none }) (v := ?_) rfl (by kernel_rfl) (fun _ _ _ h => h) (Or.inl ⟨by rfl, ?_⟩) (by assumption) ?_
        rotate_left
        · (intro wz hSw; (try dsimp only at hSw); go_simp; (try with_reducible rfl))
        (try simp only [Act.put, List.setIfInBounds_toArray, List.set_cons_zero, List.set_cons_succ])
        refine wpAnyZ_take (i := 28) (oi := { dst := some 58, op := Op.convert 5 163 (Operand.tmp 57), type := 163, pos := "ref.go:31", after := #[{ on := 27, ground := Ground.data }], guard := none }) (v := ?_) rfl (by kernel_rfl) (fun _ _ _ h => h) (Or.inl ⟨by rfl, ?_⟩) (by assumption) ?_
        rotate_left
        · (intro wz hSw; (try dsimp only at hSw); go_simp; (try with_reducible rfl))
        (try simp only [Act.put, List.setIfInBounds_toArray, List.set_cons_zero, List.set_cons_succ])
        refine wpAnyZ_take (i := 29) (oi := { dst := some 59, op := Op.binOp BinOp.or 163 (Operand.tmp 52) (Operand.tmp 58) 163, type := 163, pos := "ref.go:31", after := #[{ on := 22, ground := Ground.data }, { on := 28, ground := Ground.data }], guard := none }) (v := ?_) rfl (by kernel_rfl) (fun _ _ _ h => h) (Or.inl ⟨by rfl, ?_⟩) (by assumption) ?_
        rotate_left
        · (intro wz hSw; (try dsimp only at hSw); go_simp; (try with_reducible rfl))
        (try simp only [Act.put, List.setIfInBounds_toArray, List.set_cons_zero, List.set_cons_succ])
        refine wpAnyZ_ready (rs := [30]) (by kernel_rfl) (by simp) ?_
        refine AllReadyZ.cons (o := { dst := some 60, op := Op.buildSlice 168 1 #[(0, Operand.tmp 59)], type := 168, pos := "ref.go:31", after := #[{ on := 29, ground := Ground.data }], guard := none }) rfl (fun KK hKK => ?_) AllReadyZ.nil
        go_simp
        replace kr := kr.alloc (.cells #[u32v wd] 163)
        clear hHeld
        have OX := Lib.hid (Own.new w1 163 [u32v wd])
        replace HO := Lib.hid (ownsRow_kept HOr.out kr)
        replace K := Kr.trans kr
        generalize (w1.alloc (.cells #[u32v wd] 163)) = w2 at *
        generalize w1.heap.size = bX at *
        refine hKK.out _ _ ?_ (fun hHeld => ?_)
        · exact kr
        clear hKK KK
        (try simp only [Act.put, List.setIfInBounds_toArray, List.set_cons_zero, List.set_cons_succ])
        refine wpAnyZ_ready (rs := [31]) (by kernel_rfl) (by simp) ?_
        refine AllReadyZ.late (o := { dst := some 61, op := Op.call { callee := Callee.builtin Builtin.append, args := #[Operand.tmp 30, Operand.tmp 60], argTypes := #[168, 168] }, type := 168, pos := "ref.go:31", after := #[{ on := 0, ground := Ground.data }, { on := 30, ground := Ground.data }], guard := none }) rfl (by simp) (fun KK hKK => ?_) AllReadyZ.nil
        refine Tryd.elU32w.step_app rfl _ _ rfl w.heap.size (.slice B i cap) (Fw i) rfl HO.out [] (some ⟨bX, 0, none⟩) 1 [wd] rfl (OX.out.row (by simp)) (uC_one _) (by rw [HFI.out]; unfold maxLen; simp only [List.length_cons, List.length_nil]; omega) (by rw [HFI.out]; simp only [List.length_cons, List.length_nil]; omega) (Nat.le_trans K.size (Nat.le_refl _)) ?_
        intro v9 w3 hap hgr hat
        replace K := K.grown hgr (fun k e => (HO.out.lt k e).1)
        obtain ⟨A9, c9, rfl, _, _, _⟩ := own_form (V := []) hap (by simp)
        rw [← HWF.out] at hap ⊢
        rw [HFI1.out] at hap ⊢
        have HO9 : Hid (w3.ownsRow w.heap.size 163 1 (.slice A9 (i + 1) c9) (Fw (i + 1)).length ((Fw (i + 1)).flatMap uC)) := by show World.ownsRow _ _ _ _ _ _ _; rw [HFI1.out]; exact hap
        clear hap hgr hat HO OX
        refine hKK.out _ _ ?_
        clear hKK KK
        (try simp only [Act.put, List.setIfInBounds_toArray, List.set_cons_zero, List.set_cons_succ])
        refine wpAnyZ_ready (rs := [32]) (by kernel_rfl) (by simp) ?_
        refine AllReadyZ.late (o := { dst := some 7, op := Op.assign (Operand.tmp 61), type := 168, pos := "ref.go:31", after := #[{ on := 31, ground := Ground.data }, { on := 31, ground := Ground.chain }, { on := 0, ground := Ground.phase }, { on := 1, ground := Ground.phase }, { on := 2, ground := Ground.phase }, { on := 3, ground := Ground.phase }, { on := 4, ground := Ground.phase }, { on := 5, ground := Ground.phase }, { on := 6, ground := Ground.phase }, { on := 7, ground := Ground.phase }, { on := 8, ground := Ground.phase }, { on := 9, ground := Ground.phase }, { on := 10, ground := Ground.phase }, { on := 11, ground := Ground.phase }, { on := 12, ground := Ground.phase }, { on := 13, ground := Ground.phase }, { on := 14, ground := Ground.phase }, { on := 15, ground := Ground.phase }, { on := 16, ground := Ground.phase }, { on := 17, ground := Ground.phase }, { on := 18, ground := Ground.phase }, { on := 19, ground := Ground.phase }, { on := 20, ground := Ground.phase }, { on := 21, ground := Ground.phase }, { on := 22, ground := Ground.phase }, { on := 23, ground := Ground.phase }, { on := 24, ground := Ground.phase }, { on := 25, ground := Ground.phase }, { on := 26, ground := Ground.phase }, { on := 27, ground := Ground.phase }, { on := 28, ground := Ground.phase }, { on := 29, ground := Ground.phase }, { on := 30, ground := Ground.phase }, { on := 31, ground := Ground.phase }], guard := none }) rfl (by simp) (fun KK hKK => ?_) AllReadyZ.nil
        go_simp
        refine hKK.out _ _ ?_
        clear hKK KK
        (try simp only [Act.put, List.setIfInBounds_toArray, List.set_cons_zero, List.set_cons_succ])
        refine wpAnyZ_done (by kernel_rfl) ?_ _
        clear HOr Kr zr hHeld kr
        go_wp2
        go_roundw
        case rel => exact ⟨i + 1, A9, c9, by omega, by go_num, rfl, HO9, K⟩
        case measure => simp [intOf]; omega
      · skip
        obtain ⟨g, rfl, hg, hgc, hcp, hcm, _⟩ := own_some HO.out (by rw [Tryd.elU32w.cells_length, HFI.out]; omega) (by rw [HFI.out]; omega)
        rw [HFI.out] at hcp
        unfold maxLen at hcm
        have HGC : Hid (∀ j, j < i → wr.cell? ⟨g, j, none⟩ = some (u32v (at32 (Fw i) j))) := fun j hj => hgc j _ (by rw [← wv_uC]; exact wv_at (by rw [HFI.out]; exact hj))
        have g15 := HGC.out (i - 15) (by omega)
        have g2 := HGC.out (i - 2) (by omega)
        have g16 := HGC.out (i - 16) (by omega)
        have g7 := HGC.out (i - 7) (by omega)
        have HWF : Hid (Fw (i + 1) = Fw i ++ [((at32 (Fw i) (i - 16) + sig0 (at32 (Fw i) (i - 15))) + at32 (Fw i) (i - 7)) + sig1 (at32 (Fw i) (i - 2))]) := by
          show _ = _
          rw [HFN.out, nextW, if_neg h16]
        clear hgc HFN
        generalize at32 (Fw i) (i - 16) = a16 at *
        generalize at32 (Fw i) (i - 15) = a15 at *
        generalize at32 (Fw i) (i - 7) = a7 at *
        generalize at32 (Fw i) (i - 2) = a2 at *
        have hs0 := sig0_bits a15
        have hs1 := sig1_bits a2
        have hsum : IntKind.u32.wrap (IntKind.u32.wrap (IntKind.u32.wrap (((sig0 a15).toNat : Int) + ((sig1 a2).toNat : Int)) + (a7.toNat : Int)) + (a16.toNat : Int)) = ((((a16 + sig0 a15) + a7) + sig1 a2).toNat : Int) := by rw [IntKind.wrap_u32', IntKind.wrap_u32', IntKind.wrap_u32', uadd, uadd, uadd, next_sum]
        generalize hwd : ((a16 + sig0 a15) + a7) + sig1 a2 = wd at *
        clear hwd
        have k0 : (0 : Int) ≤ (i : Int) := by omega
        have k1 : (i : Int) < 64 := by omega
        have w15 : IntKind.i64.wrap ((i : Int) - 15) = (i : Int) - 15 := IntWalk.i64_in _ (by omega)
        have t15 : ((i : Int) - 15).toNat = i - 15 := by omega
        have p15 : (0 : Int) ≤ (i : Int) - 15 := by omega
        have l15 : (i : Int) - 15 < (i : Int) := by omega
        have r15 : (15 : Int) ≤ (i : Int) := by omega
        have w2 : IntKind.i64.wrap ((i : Int) - 2) = (i : Int) - 2 := IntWalk.i64_in _ (by omega)
        have t2 : ((i : Int) - 2).toNat = i - 2 := by omega
        have p2 : (0 : Int) ≤ (i : Int) - 2 := by omega
        have l2 : (i : Int) - 2 < (i : Int) := by omega
        have r2 : (2 : Int) ≤ (i : Int) := by omega
        have w16 : IntKind.i64.wrap ((i : Int) - 16) = (i : Int) - 16 := IntWalk.i64_in _ (by omega)
        have t16 : ((i : Int) - 16).toNat = i - 16 := by omega
        have p16 : (0 : Int) ≤ (i : Int) - 16 := by omega
        have l16 : (i : Int) - 16 < (i : Int) := by omega
        have r16 : (16 : Int) ≤ (i : Int) := by omega
        have w7 : IntKind.i64.wrap ((i : Int) - 7) = (i : Int) - 7 := IntWalk.i64_in _ (by omega)
        have t7 : ((i : Int) - 7).toNat = i - 7 := by omega
        have p7 : (0 : Int) ≤ (i : Int) - 7 := by omega
        have l7 : (i : Int) - 7 < (i : Int) := by omega
        have r7 : (7 : Int) ≤ (i : Int) := by omega
        go_upto_region 7 with fail
        go_quiet (fail)
        go_upto_region 8 with fail
        replace HO : Hid (World.ownsRow (wr.drewN nq) w.heap.size 163 1 (.slice (some ⟨g, 0, none⟩) i cap) (Fw i).length ((Fw i).flatMap uC)) := ownsRow_kept HO.out ((Kept.refl wr).drewN nq)
        replace K := K.drewN nq
        replace hg : g < (wr.drewN nq).heap.size := hg
        replace g16 : (wr.drewN nq).cell? ⟨g, i - 16, none⟩ = some (u32v a16) := g16
        replace g7 : (wr.drewN nq).cell? ⟨g, i - 7, none⟩ = some (u32v a7) := g7
        clear HGC g15 g2
        generalize wr.drewN nq = wd7 at *
        go_upto_region 8 with fail
        have C16 : ∀ W', Kept wd7 W' → W'.cell? ⟨g, i - 16, none⟩ = some (u32v a16) := fun W' hk => (hk.cell (p := ⟨g, i - 16, none⟩) hg).trans g16
        have C7 : ∀ W', Kept wd7 W' → W'.cell? ⟨g, i - 7, none⟩ = some (u32v a7) := fun W' hk => (hk.cell (p := ⟨g, i - 7, none⟩) hg).trans g7
        refine wp_region_Z (S := fun W' => Kept wd7 W') (Z := [31, 32]) (by kernel_rfl) ((Kept.refl wd7).drew) (fun hHeld => ?_)
        have kr := (Kept.refl wd7).drew
        have Kr := K
        have zr := K.size
        have HOr := HO
        replace HO := Lib.hid (ownsRow_kept HOr.out kr)
        replace K := Kr.trans kr
        generalize wd7.drew = w1 at *
        refine wpAnyZ_take (i := 0) (oi := { dst := some 72, op := Op.move (Operand.tmp 7), type := 168, pos := "ref.go:35", after := #[], guard := none }) (v := ?_) rfl (by kernel_rfl) (fun _ _ _ h => h) (Or.inl ⟨by rfl, ?_⟩) (by assumption) ?_
        rotate_left
        · (intro wz hSw; (try dsimp only at hSw); go_simp; (try with_reducible rfl))
        (try simp only [Act.put, List.setIfInBounds_toArray, List.set_cons_zero, List.set_cons_succ])
        refine wpAnyZ_take (i := 1) (oi := { dst := some 73, op := Op.move (Operand.tmp 9), type := 163, pos := "ref.go:35", after := #[], guard := none }) (v := ?_) rfl (by kernel_rfl) (fun _ _ _ h => h) (Or.inl ⟨by rfl, ?_⟩) (by assumption) ?_
        rotate_left
        · (intro wz hSw; (try dsimp only at hSw); go_simp; (try with_reducible rfl))
        (try simp only [Act.put, List.setIfInBounds_toArray, List.set_cons_zero, List.set_cons_succ])
        refine wpAnyZ_take (i := 3) (oi := { dst := some 75, op := Op.move (Operand.tmp 9), type := 163, pos := "ref.go:35", after := #[], guard := none }) (v := ?_) rfl (by kernel_rfl) (fun _ _ _ h => h) (Or.inl ⟨by rfl, ?_⟩) (by assumption) ?_
        rotate_left
        · (intro wz hSw; (try dsimp only at hSw); go_simp; (try with_reducible rfl))
        (try simp only [Act.put, List.setIfInBounds_toArray, List.set_cons_zero, List.set_cons_succ])
        refine wpAnyZ_take (i := 6) (oi := { dst := some 78, op := Op.move (Operand.tmp 9), type := 163, pos := "ref.go:35", after := #[], guard := none }) (v := ?_) rfl (by kernel_rfl) (fun _ _ _ h => h) (Or.inl ⟨by rfl, ?_⟩) (by assumption) ?_
        rotate_left
        · (intro wz hSw; (try dsimp only at hSw); go_simp; (try with_reducible rfl))
        (try simp only [Act.put, List.setIfInBounds_toArray, List.set_cons_zero, List.set_cons_succ])
        refine wpAnyZ_take (i := 7) (oi := { dst := some 79, op := Op.binOp BinOp.shr 163 (Operand.tmp 78) (Operand.const (Value.int IntKind.u64 3)) 138, type := 163, pos := "ref.go:35", after := #[{ on := 6, ground := Ground.data }], guard := none }) (v := ?_) rfl (by kernel_rfl) (fun _ _ _ h => h) (Or.inl ⟨by rfl, ?_⟩) (by assumption) ?_
        rotate_left
        · (intro wz hSw; (try dsimp only at hSw); go_simp; (try with_reducible rfl))
        (try simp only [Act.put, List.setIfInBounds_toArray, List.set_cons_zero, List.set_cons_succ])
        refine wpAnyZ_take (i := 9) (oi := { dst := some 81, op := Op.move (Operand.tmp 10), type := 163, pos := "ref.go:35", after := #[], guard := none }) (v := ?_) rfl (by kernel_rfl) (fun _ _ _ h => h) (Or.inl ⟨by rfl, ?_⟩) (by assumption) ?_
        rotate_left
        · (intro wz hSw; (try dsimp only at hSw); go_simp; (try with_reducible rfl))
        (try simp only [Act.put, List.setIfInBounds_toArray, List.set_cons_zero, List.set_cons_succ])
        refine wpAnyZ_take (i := 11) (oi := { dst := some 83, op := Op.move (Operand.tmp 10), type := 163, pos := "ref.go:35", after := #[], guard := none }) (v := ?_) rfl (by kernel_rfl) (fun _ _ _ h => h) (Or.inl ⟨by rfl, ?_⟩) (by assumption) ?_
        rotate_left
        · (intro wz hSw; (try dsimp only at hSw); go_simp; (try with_reducible rfl))
        (try simp only [Act.put, List.setIfInBounds_toArray, List.set_cons_zero, List.set_cons_succ])
        refine wpAnyZ_take (i := 14) (oi := { dst := some 86, op := Op.move (Operand.tmp 10), type := 163, pos := "ref.go:35", after := #[], guard := none }) (v := ?_) rfl (by kernel_rfl) (fun _ _ _ h => h) (Or.inl ⟨by rfl, ?_⟩) (by assumption) ?_
        rotate_left
        · (intro wz hSw; (try dsimp only at hSw); go_simp; (try with_reducible rfl))
        (try simp only [Act.put, List.setIfInBounds_toArray, List.set_cons_zero, List.set_cons_succ])
        refine wpAnyZ_take (i := 15) (oi := { dst := some 87, op := Op.binOp BinOp.shr 163 (Operand.tmp 86) (Operand.const (Value.int IntKind.u64 10)) 138, type := 163, pos := "ref.go:35", after := #[{ on := 14, ground := Ground.data }], guard := none }) (v := ?_) rfl (by kernel_rfl) (fun _ _ _ h => h) (Or.inl ⟨by rfl, ?_⟩) (by assumption) ?_
        rotate_left
        · (intro wz hSw; (try dsimp only at hSw); go_simp; (try with_reducible rfl))
        (try simp only [Act.put, List.setIfInBounds_toArray, List.set_cons_zero, List.set_cons_succ])
        refine wpAnyZ_take (i := 18) (oi := { dst := some 90, op := Op.move (Operand.tmp 7), type := 168, pos := "ref.go:35", after := #[], guard := none }) (v := ?_) rfl (by kernel_rfl) (fun _ _ _ h => h) (Or.inl ⟨by rfl, ?_⟩) (by assumption) ?_
        rotate_left
        · (intro wz hSw; (try dsimp only at hSw); go_simp; (try with_reducible rfl))
        (try simp only [Act.put, List.setIfInBounds_toArray, List.set_cons_zero, List.set_cons_succ])
        refine wpAnyZ_take (i := 19) (oi := { dst := some 91, op := Op.move (Operand.tmp 8), type := 3, pos := "ref.go:35", after := #[], guard := none }) (v := ?_) rfl (by kernel_rfl) (fun _ _ _ h => h) (Or.inl ⟨by rfl, ?_⟩) (by assumption) ?_
        rotate_left
        · (intro wz hSw; (try dsimp only at hSw); go_simp; (try with_reducible rfl))
        (try simp only [Act.put, List.setIfInBounds_toArray, List.set_cons_zero, List.set_cons_succ])
        refine wpAnyZ_take (i := 20) (oi := { dst := some 92, op := Op.binOp BinOp.sub 3 (Operand.tmp 91) (Operand.const (Value.int IntKind.i64 7)) 3, type := 3, pos := "ref.go:35", after := #[{ on := 19, ground := Ground.data }], guard := none }) (v := ?_) rfl (by kernel_rfl) (fun _ _ _ h => h) (Or.inl ⟨by rfl, ?_⟩) (by assumption) ?_
        rotate_left
        · (intro wz hSw; (try dsimp only at hSw); go_simp; (try with_reducible rfl))
        (try simp only [Act.put, List.setIfInBounds_toArray, List.set_cons_zero, List.set_cons_succ])
        refine wpAnyZ_take (i := 21) (oi := { dst := some 93, op := Op.indexAddr 168 (Operand.tmp 90) (Operand.tmp 92), type := 0, pos := "ref.go:35", after := #[{ on := 18, ground := Ground.data }, { on := 20, ground := Ground.data }], guard := none }) (v := ?_) rfl (by kernel_rfl) (fun _ _ _ h => h) (Or.inl ⟨by rfl, ?_⟩) (by assumption) ?_
        rotate_left
        · (intro wz hSw; (try dsimp only at hSw); go_simp; (try with_reducible rfl))
        (try simp only [Act.put, List.setIfInBounds_toArray, List.set_cons_zero, List.set_cons_succ])
        refine wpAnyZ_take (i := 22) (oi := { dst := some 94, op := Op.load 163 (Operand.tmp 93), type := 163, pos := "ref.go:35", after := #[{ on := 21, ground := Ground.data }], guard := none }) (v := ?_) rfl (by kernel_rfl) (fun _ _ _ h => h) (Or.inl ⟨by rfl, ?_⟩) (by assumption) ?_
        rotate_left
        · (intro wz hSw; (try dsimp only at hSw); go_simp; (try with_reducible rfl))
        (try simp only [Act.put, List.setIfInBounds_toArray, List.set_cons_zero, List.set_cons_succ])
        refine wpAnyZ_take (i := 24) (oi := { dst := some 96, op := Op.move (Operand.tmp 7), type := 168, pos := "ref.go:35", after := #[], guard := none }) (v := ?_) rfl (by kernel_rfl) (fun _ _ _ h => h) (Or.inl ⟨by rfl, ?_⟩) (by assumption) ?_
        rotate_left
        · (intro wz hSw; (try dsimp only at hSw); go_simp; (try with_reducible rfl))
        (try simp only [Act.put, List.setIfInBounds_toArray, List.set_cons_zero, List.set_cons_succ])
        refine wpAnyZ_take (i := 25) (oi := { dst := some 97, op := Op.move (Operand.tmp 8), type := 3, pos := "ref.go:35", after := #[], guard := none }) (v := ?_) rfl (by kernel_rfl) (fun _ _ _ h => h) (Or.inl ⟨by rfl, ?_⟩) (by assumption) ?_
        rotate_left
        · (intro wz hSw; (try dsimp only at hSw); go_simp; (try with_reducible rfl))
        (try simp only [Act.put, List.setIfInBounds_toArray, List.set_cons_zero, List.set_cons_succ])
        refine wpAnyZ_take (i := 26) (oi := { dst := some 98, op := Op.binOp BinOp.sub 3 (Operand.tmp 97) (Operand.const (Value.int IntKind.i64 16)) 3, type := 3, pos := "ref.go:35", after := #[{ on := 25, ground := Ground.data }], guard := none }) (v := ?_) rfl (by kernel_rfl) (fun _ _ _ h => h) (Or.inl ⟨by rfl, ?_⟩) (by assumption) ?_
        rotate_left
        · (intro wz hSw; (try dsimp only at hSw); go_simp; (try with_reducible rfl))
        (try simp only [Act.put, List.setIfInBounds_toArray, List.set_cons_zero, List.set_cons_succ])
        refine wpAnyZ_take (i := 27) (oi := { dst := some 99, op := Op.indexAddr 168 (Operand.tmp 96) (Operand.tmp 98), type := 0, pos := "ref.go:35", after := #[{ on := 24, ground := Ground.data }, { on := 26, ground := Ground.data }], guard := none }) (v := ?_) rfl (by kernel_rfl) (fun _ _ _ h => h) (Or.inl ⟨by rfl, ?_⟩) (by assumption) ?_
        rotate_left
        · (intro wz hSw; (try dsimp only at hSw); go_simp; (try with_reducible rfl))
        (try simp only [Act.put, List.setIfInBounds_toArray, List.set_cons_zero, List.set_cons_succ])
        refine wpAnyZ_take (i := 28) (oi := { dst := some 100, op := Op.load 163 (Operand.tmp 99), type := 163, pos := "ref.go:35", after := #[{ on := 27, ground := Ground.data }], guard := none }) (v := ?_) rfl (by kernel_rfl) (fun _ _ _ h => h) (Or.inl ⟨by rfl, ?_⟩) (by assumption) ?_
        rotate_left
        · (intro wz hSw; (try dsimp only at hSw); go_simp; (try with_reducible rfl))
        (try simp only [Act.put, List.setIfInBounds_toArray, List.set_cons_zero, List.set_cons_succ])
        refine wpAnyZ_ready (rs := [2]) (by kernel_rfl) (by simp) ?_
        refine AllReadyZ.cons (o := { dst := some 74, op := Op.call { callee := Callee.value (Operand.func 127), args := #[Operand.tmp 73, Operand.const (Value.int IntKind.i64 7)], argTypes := #[163, 3] }, type := 163, pos := "ref.go:35", after := #[{ on := 1, ground := Ground.data }], guard := none }) rfl (fun KK hKK => ?_) AllReadyZ.nil
        go_simp
        refine (rr7 a15 w1).mono ?_
        rintro e w2 ⟨rfl, hk⟩
        clear hHeld
        replace kr := kr.trans hk
        replace HO := Lib.hid (ownsRow_kept HOr.out kr)
        replace K := Kr.trans kr
        clear hk
        go_simp
        refine hKK.out _ _ ?_ (fun hHeld => ?_)
        · exact kr
        clear hKK KK
        (try simp only [Act.put, List.setIfInBounds_toArray, List.set_cons_zero, List.set_cons_succ])
        refine wpAnyZ_ready (rs := [4]) (by kernel_rfl) (by simp) ?_
        refine AllReadyZ.cons (o := { dst := some 76, op := Op.call { callee := Callee.value (Operand.func 127), args := #[Operand.tmp 75, Operand.const (Value.int IntKind.i64 18)], argTypes := #[163, 3] }, type := 163, pos := "ref.go:35", after := #[{ on := 3, ground := Ground.data }, { on := 2, ground := Ground.chain }], guard := none }) rfl (fun KK hKK => ?_) AllReadyZ.nil
        go_simp
        refine (rr18 a15 w2).mono ?_
        rintro e w3 ⟨rfl, hk⟩
        clear hHeld
        replace kr := kr.trans hk
        replace HO := Lib.hid (ownsRow_kept HOr.out kr)
        replace K := Kr.trans kr
        clear hk
        go_simp
        refine hKK.out _ _ ?_ (fun hHeld => ?_)
        · exact kr
        clear hKK KK
        (try simp only [Act.put, List.setIfInBounds_toArray, List.set_cons_zero, List.set_cons_succ])
        refine wpAnyZ_take (i := 5) (oi := { dst := some 77, op := Op.binOp BinOp.xor 163 (Operand.tmp 74) (Operand.tmp 76) 163, type := 163, pos := "ref.go:35", after := #[{ on := 2, ground := Ground.data }, { on := 4, ground := Ground.data }], guard := none }) (v := ?_) rfl (by kernel_rfl) (fun _ _ _ h => h) (Or.inl ⟨by rfl, ?_⟩) (by assumption) ?_
        rotate_left
        · (intro wz hSw; (try dsimp only at hSw); go_simp; (try with_reducible rfl))
        (try simp only [Act.put, List.setIfInBounds_toArray, List.set_cons_zero, List.set_cons_succ])
        refine wpAnyZ_take (i := 8) (oi := { dst := some 80, op := Op.binOp BinOp.xor 163 (Operand.tmp 77) (Operand.tmp 79) 163, type := 163, pos := "ref.go:35", after := #[{ on := 5, ground := Ground.data }, { on := 7, ground := Ground.data }], guard := none }) (v := ?_) rfl (by kernel_rfl) (fun _ _ _ h => h) (Or.inl ⟨by rfl, ?_⟩) (by assumption) ?_
        rotate_left
        · (intro wz hSw; (try dsimp only at hSw); go_simp; (try with_reducible rfl))
        (try simp only [Act.put, List.setIfInBounds_toArray, List.set_cons_zero, List.set_cons_succ])
        refine wpAnyZ_ready (rs := [10]) (by kernel_rfl) (by simp) ?_
        refine AllReadyZ.cons (o := { dst := some 82, op := Op.call { callee := Callee.value (Operand.func 127), args := #[Operand.tmp 81, Operand.const (Value.int IntKind.i64 17)], argTypes := #[163, 3] }, type := 163, pos := "ref.go:35", after := #[{ on := 9, ground := Ground.data }, { on := 4, ground := Ground.chain }], guard := none }) rfl (fun KK hKK => ?_) AllReadyZ.nil
        go_simp
        refine (rr17 a2 w3).mono ?_
        rintro e w4 ⟨rfl, hk⟩
        clear hHeld
        replace kr := kr.trans hk
        replace HO := Lib.hid (ownsRow_kept HOr.out kr)
        replace K := Kr.trans kr
        clear hk
        go_simp
        refine hKK.out _ _ ?_ (fun hHeld => ?_)
        · exact kr
        clear hKK KK
        (try simp only [Act.put, List.setIfInBounds_toArray, List.set_cons_zero, List.set_cons_succ])
        refine wpAnyZ_ready (rs := [12]) (by kernel_rfl) (by simp) ?_
        refine AllReadyZ.cons (o := { dst := some 84, op := Op.call { callee := Callee.value (Operand.func 127), args := #[Operand.tmp 83, Operand.const (Value.int IntKind.i64 19)], argTypes := #[163, 3] }, type := 163, pos := "ref.go:35", after := #[{ on := 11, ground := Ground.data }, { on := 10, ground := Ground.chain }], guard := none }) rfl (fun KK hKK => ?_) AllReadyZ.nil
        go_simp
        refine (rr19 a2 w4).mono ?_
        rintro e w5 ⟨rfl, hk⟩
        clear hHeld
        replace kr := kr.trans hk
        replace HO := Lib.hid (ownsRow_kept HOr.out kr)
        replace K := Kr.trans kr
        clear hk
        go_simp
        refine hKK.out _ _ ?_ (fun hHeld => ?_)
        · exact kr
        clear hKK KK
        (try simp only [Act.put, List.setIfInBounds_toArray, List.set_cons_zero, List.set_cons_succ])
        refine wpAnyZ_take (i := 13) (oi := { dst := some 85, op := Op.binOp BinOp.xor 163 (Operand.tmp 82) (Operand.tmp 84) 163, type := 163, pos := "ref.go:35", after := #[{ on := 10, ground := Ground.data }, { on := 12, ground := Ground.data }], guard := none }) (v := ?_) rfl (by kernel_rfl) (fun _ _ _ h => h) (Or.inl ⟨by rfl, ?_⟩) (by assumption) ?_
        rotate_left
        · (intro wz hSw; (try dsimp only at hSw); go_simp; (try with_reducible rfl))
        (try simp only [Act.put, List.setIfInBounds_toArray, List.set_cons_zero, List.set_cons_succ])
        refine wpAnyZ_take (i := 16) (oi := { dst := some 88, op := Op.binOp BinOp.xor 163 (Operand.tmp 85) (Operand.tmp 87) 163, type := 163, pos := "ref.go:35", after := #[{ on := 13, ground := Ground.data }, { on := 15, ground := Ground.data }], guard := none }) (v := ?_) rfl (by kernel_rfl) (fun _ _ _ h => h) (Or.inl ⟨by rfl, ?_⟩) (by assumption) ?_
        rotate_left
        · (intro wz hSw; (try dsimp only at hSw); go_simp; (try with_reducible rfl))
        (try simp only [Act.put, List.setIfInBounds_toArray, List.set_cons_zero, List.set_cons_succ])
        refine wpAnyZ_take (i := 17) (oi := { dst := some 89, op := Op.binOp BinOp.add 163 (Operand.tmp 80) (Operand.tmp 88) 163, type := 163, pos := "ref.go:35", after := #[{ on := 8, ground := Ground.data }, { on := 16, ground := Ground.data }], guard := none }) (v := ?_) rfl (by kernel_rfl) (fun _ _ _ h => h) (Or.inl ⟨by rfl, ?_⟩) (by assumption) ?_
        rotate_left
        · (intro wz hSw; (try dsimp only at hSw); go_simp; (try with_reducible rfl))
        (try simp only [Act.put, List.setIfInBounds_toArray, List.set_cons_zero, List.set_cons_succ])
        refine wpAnyZ_take (i := 23) (oi := { dst := some 95, op := Op.binOp BinOp.add 163 (Operand.tmp 89) (Operand.tmp 94) 163, type := 163, pos := "ref.go:35", after := #[{ on := 17, ground := Ground.data }, { on := 22, ground := Ground.data }], guard := none }) (v := ?_) rfl (by kernel_rfl) (fun _ _ _ h => h) (Or.inl ⟨by rfl, ?_⟩) (by assumption) ?_
        rotate_left
        · (intro wz hSw; (try dsimp only at hSw); go_simp; (try with_reducible rfl))
        (try simp only [Act.put, List.setIfInBounds_toArray, List.set_cons_zero, List.set_cons_succ])
        refine wpAnyZ_take (i := 29) (oi := { dst := some 101, op := Op.binOp BinOp.add 163 (Operand.tmp 95) (Operand.tmp 100) 163, type := 163, pos := "ref.go:35", after := #[{ on := 23, ground := Ground.data }, { on := 28, ground := Ground.data }], guard := none }) (v := ?_) rfl (by kernel_rfl) (fun _ _ _ h => h) (Or.inl ⟨by rfl, ?_⟩) (by assumption) ?_
        rotate_left
        · (intro wz hSw; (try dsimp only at hSw); go_simp; (try with_reducible rfl))
        (try simp only [Act.put, List.setIfInBounds_toArray, List.set_cons_zero, List.set_cons_succ])
        refine wpAnyZ_ready (rs := [30]) (by kernel_rfl) (by simp) ?_
        refine AllReadyZ.cons (o := { dst := some 102, op := Op.buildSlice 168 1 #[(0, Operand.tmp 101)], type := 168, pos := "ref.go:35", after := #[{ on := 29, ground := Ground.data }], guard := none }) rfl (fun KK hKK => ?_) AllReadyZ.nil
        go_simp
        replace kr := kr.alloc (.cells #[u32v wd] 163)
        clear hHeld
        have OX := Lib.hid (Own.new w5 163 [u32v wd])
        replace HO := Lib.hid (ownsRow_kept HOr.out kr)
        replace K := Kr.trans kr
        generalize (w5.alloc (.cells #[u32v wd] 163)) = w6 at *
        generalize w5.heap.size = bX at *
        refine hKK.out _ _ ?_ (fun hHeld => ?_)
        · exact kr
        clear hKK KK
        (try simp only [Act.put, List.setIfInBounds_toArray, List.set_cons_zero, List.set_cons_succ])
        refine wpAnyZ_ready (rs := [31]) (by kernel_rfl) (by simp) ?_
        refine AllReadyZ.late (o := { dst := some 103, op := Op.call { callee := Callee.builtin Builtin.append, args := #[Operand.tmp 72, Operand.tmp 102], argTypes := #[168, 168] }, type := 168, pos := "ref.go:35", after := #[{ on := 0, ground := Ground.data }, { on := 30, ground := Ground.data }, { on := 12, ground := Ground.chain }], guard := none }) rfl (by simp) (fun KK hKK => ?_) AllReadyZ.nil
        refine Tryd.elU32w.step_app rfl _ _ rfl w.heap.size (.slice (some ⟨g, 0, none⟩) i cap) (Fw i) rfl HO.out [] (some ⟨bX, 0, none⟩) 1 [wd] rfl (OX.out.row (by simp)) (uC_one _) (by rw [HFI.out]; unfold maxLen; simp only [List.length_cons, List.length_nil]; omega) (by rw [HFI.out]; simp only [List.length_cons, List.length_nil]; omega) (Nat.le_trans K.size (Nat.le_refl _)) ?_
        intro v9 w7 hap hgr hat
        replace K := K.grown hgr (fun k e => (HO.out.lt k e).1)
        obtain ⟨A9, c9, rfl, _, _, _⟩ := own_form (V := []) hap (by simp)
        rw [← HWF.out] at hap ⊢
        rw [HFI1.out] at hap ⊢
        have HO9 : Hid (w7.ownsRow w.heap.size 163 1 (.slice A9 (i + 1) c9) (Fw (i + 1)).length ((Fw (i + 1)).flatMap uC)) := by show World.ownsRow _ _ _ _ _ _ _; rw [HFI1.out]; exact hap
        clear hap hgr hat HO OX
        refine hKK.out _ _ ?_
        clear hKK KK
        (try simp only [Act.put, List.setIfInBounds_toArray, List.set_cons_zero, List.set_cons_succ])
        refine wpAnyZ_ready (rs := [32]) (by kernel_rfl) (by simp) ?_
        refine AllReadyZ.late (o := { dst := some 7, op := Op.assign (Operand.tmp 103), type := 168, pos := "ref.go:35", after := #[{ on := 31, ground := Ground.data }, { on := 31, ground := Ground.chain }, { on := 0, ground := Ground.phase }, { on := 1, ground := Ground.phase }, { on := 2, ground := Ground.phase }, { on := 3, ground := Ground.phase }, { on := 4, ground := Ground.phase }, { on := 5, ground := Ground.phase }, { on := 6, ground := Ground.phase }, { on := 7, ground := Ground.phase }, { on := 8, ground := Ground.phase }, { on := 9, ground := Ground.phase }, { on := 10, ground := Ground.phase }, { on := 11, ground := Ground.phase }, { on := 12, ground := Ground.phase }, { on := 13, ground := Ground.phase }, { on := 14, ground := Ground.phase }, { on := 15, ground := Ground.phase }, { on := 16, ground := Ground.phase }, { on := 17, ground := Ground.phase }, { on := 18, ground := Ground.phase }, { on := 19, ground := Ground.phase }, { on := 20, ground := Ground.phase }, { on := 21, ground := Ground.phase }, { on := 22, ground := Ground.phase }, { on := 23, ground := Ground.phase }, { on := 24, ground := Ground.phase }, { on := 25, ground := Ground.phase }, { on := 26, ground := Ground.phase }, { on := 27, ground := Ground.phase }, { on := 28, ground := Ground.phase }, { on := 29, ground := Ground.phase }, { on := 30, ground := Ground.phase }, { on := 31, ground := Ground.phase }], guard := none }) rfl (by simp) (fun KK hKK => ?_) AllReadyZ.nil
        go_simp
        refine hKK.out _ _ ?_
        clear hKK KK
        (try simp only [Act.put, List.setIfInBounds_toArray, List.set_cons_zero, List.set_cons_succ])
        refine wpAnyZ_done (by kernel_rfl) ?_ _
        clear C16 C7 HOr Kr zr hHeld kr
        go_wp2
        go_roundw
        case rel => exact ⟨i + 1, A9, c9, by omega, by go_num, rfl, HO9, K⟩
        case measure => simp [intOf]; omega
    · obtain rfl : i = n := by rw [HN.out]; omega
      have h64 := HN.out
      obtain ⟨g, rfl, hg, hgc, hcp, hcm, _⟩ := own_some HO.out (by rw [Tryd.elU32w.cells_length, HFI.out]; omega) (by rw [HFI.out]; omega)
      rw [HFI.out] at hcp
      unfold maxLen at hcm
      have HGC : Hid (∀ j, j < 64 → wr.cell? ⟨g, j, none⟩ = some (u32v (at32 (Fw i) j))) := fun j hj => hgc j _ (by rw [← wv_uC]; exact wv_at (by rw [HFI.out, HN.out]; exact hj))
      clear hgc HO
      have h0 := (K.cell (p := ⟨hb, ho + 0, none⟩) hhb).trans (HHR.out 0 _ rfl)
      simp only [Nat.add_zero] at h0
      have hhbE : hb < wr.heap.size := Nat.lt_of_lt_of_le hhb K.size
      have h1 := (K.cell (p := ⟨hb, ho + 1, none⟩) hhb).trans (HHR.out 1 _ rfl)
      have h2 := (K.cell (p := ⟨hb, ho + 2, none⟩) hhb).trans (HHR.out 2 _ rfl)
      have h3 := (K.cell (p := ⟨hb, ho + 3, none⟩) hhb).trans (HHR.out 3 _ rfl)
      have h4 := (K.cell (p := ⟨hb, ho + 4, none⟩) hhb).trans (HHR.out 4 _ rfl)
      have h5 := (K.cell (p := ⟨hb, ho + 5, none⟩) hhb).trans (HHR.out 5 _ rfl)
      have h6 := (K.cell (p := ⟨hb, ho + 6, none⟩) hhb).trans (HHR.out 6 _ rfl)
      have h7 := (K.cell (p := ⟨hb, ho + 7, none⟩) hhb).trans (HHR.out 7 _ rfl)
      clear h64
      generalize Fw i = L at *
      obtain ⟨wE, hwE⟩ : ∃ x, x = wr := ⟨_, rfl⟩
      subst hwE
      go_upto_region 9 with fail
      go_quiet (fail)
      go_wp2_with fail
      go_loopw [11, 12, 13, 14, 15, 16, 17, 18, 19] (fun va vb vc vd ve vf vg vh iv wq => ∃ (j : Nat), j ≤ 64 ∧ iv = .int .i64 j ∧ va = u32v (R j).a ∧ vb = u32v (R j).b ∧ vc = u32v (R j).c ∧ vd = u32v (R j).d ∧ ve = u32v (R j).e ∧ vf = u32v (R j).f ∧ vg = u32v (R j).g ∧ vh = u32v (R j).h ∧ Kept wE wq) (fun _ _ _ _ _ _ _ _ iv _ => 64 - (intOf iv).toNat)
      case atStart => exact ⟨0, Nat.zero_le _, rfl, by rw [HR0.out], by rw [HR0.out], by rw [HR0.out], by rw [HR0.out], by rw [HR0.out], by rw [HR0.out], by rw [HR0.out], by rw [HR0.out], (Kept.refl wE).drewN _⟩
      case round =>
        obtain ⟨j, hj, rfl, rfl, rfl, rfl, rfl, rfl, rfl, rfl, rfl, K9⟩ := hrel
        by_cases hlt : j < 64
        · have HR1 := Lib.hid (HRS.out j)
          clear h0 h1 h2 h3 h4 h5 h6 h7
          generalize R j = s1 at *
          obtain ⟨xa, xb, xc, xd, xe, xf, xg, xh⟩ := s1
          simp only
          have gk := ((K.trans K9).cell (p := ⟨kb, ko + j, none⟩) hkb).trans (HKR.out j hlt)
          have gw := (K9.cell (p := ⟨g, j, none⟩) hg).trans (HGC.out j hlt)
          have hkb2 : kb < wr.heap.size := Nat.lt_of_lt_of_le hkb (K.trans K9).size
          have hg2 : g < wr.heap.size := Nat.lt_of_lt_of_le hg K9.size
          generalize at32 K64 j = ki at *
          generalize at32 L j = wi at *
          have i0 : (0 : Int) ≤ (j : Int) := by omega
          have i1 : (j : Int) < 64 := by omega
          have i2 : (j : Int) < (i : Int) := by have := HN.out; omega
          have b1 := sum1_bits xe
          have b0 := sum0_bits xa
          have bc := chose_bits xe xf xg
          have bm := most_bits xa xb xc
          have ht1 : IntKind.u32.wrap (IntKind.u32.wrap (IntKind.u32.wrap (IntKind.u32.wrap ((xh.toNat : Int) + ((sum1 xe).toNat : Int)) + ((chose xe xf xg).toNat : Int)) + (ki.toNat : Int)) + (wi.toNat : Int)) = ((xh + sum1 xe + chose xe xf xg + ki + wi).toNat : Int) := by rw [IntKind.wrap_u32', IntKind.wrap_u32', IntKind.wrap_u32', IntKind.wrap_u32', uadd, uadd, uadd, uadd]
          have ht2 : (((sum0 xa).toNat : Int) + ((majo xa xb xc).toNat : Int)) % 4294967296 = ((sum0 xa + majo xa xb xc).toNat : Int) := uadd _ _
          have HRN : Hid (R (j + 1) = ⟨(xh + sum1 xe + chose xe xf xg + ki + wi) + (sum0 xa + majo xa xb xc), xa, xb, xc, xd + (xh + sum1 xe + chose xe xf xg + ki + wi), xe, xf, xg⟩) := HR1.out
          clear HR1
          generalize xh + sum1 xe + chose xe xf xg + ki + wi = T1 at *
          generalize sum0 xa + majo xa xb xc = T2 at *
          go_upto_region 15 with fail
          have CK : ∀ W', Kept wr W' → W'.cell? ⟨kb, ko + j, none⟩ = some (u32v ki) := fun W' hk => (hk.cell (p := ⟨kb, ko + j, none⟩) hkb2).trans gk
          have CW : ∀ W', Kept wr W' → W'.cell? ⟨g, j, none⟩ = some (u32v wi) := fun W' hk => (hk.cell (p := ⟨g, j, none⟩) hg2).trans gw
          refine wp_region_Z (S := fun W' => Kept wr W') (Z := []) (by kernel_rfl) ((Kept.refl wr).drew) (fun hHeld => ?_)
          have kr := (Kept.refl wr).drew
          have K9r := K9
          have zr := K9.size
          replace K9 := K9r.trans kr
          generalize wr.drew = w1 at *
          refine wpAnyZ_take (i := 0) (oi := { dst := some 151, op := Op.move (Operand.tmp 18), type := 163, pos := "ref.go:41", after := #[], guard := none }) (v := ?_) rfl (by kernel_rfl) (fun _ _ _ h => h) (Or.inl ⟨by rfl, ?_⟩) (by assumption) ?_
          rotate_left
          · (intro wz hSw; (try dsimp only at hSw); go_simp; (try with_reducible rfl))
          (try simp only [Act.put, List.setIfInBounds_toArray, List.set_cons_zero, List.set_cons_succ])
          refine wpAnyZ_take (i := 1) (oi := { dst := some 152, op := Op.move (Operand.tmp 15), type := 163, pos := "ref.go:41", after := #[], guard := none }) (v := ?_) rfl (by kernel_rfl) (fun _ _ _ h => h) (Or.inl ⟨by rfl, ?_⟩) (by assumption) ?_
          rotate_left
          · (intro wz hSw; (try dsimp only at hSw); go_simp; (try with_reducible rfl))
          (try simp only [Act.put, List.setIfInBounds_toArray, List.set_cons_zero, List.set_cons_succ])
          refine wpAnyZ_take (i := 3) (oi := { dst := some 154, op := Op.move (Operand.tmp 15), type := 163, pos := "ref.go:41", after := #[], guard := none }) (v := ?_) rfl (by kernel_rfl) (fun _ _ _ h => h) (Or.inl ⟨by rfl, ?_⟩) (by assumption) ?_
          rotate_left
          · (intro wz hSw; (try dsimp only at hSw); go_simp; (try with_reducible rfl))
          (try simp only [Act.put, List.setIfInBounds_toArray, List.set_cons_zero, List.set_cons_succ])
          refine wpAnyZ_take (i := 6) (oi := { dst := some 157, op := Op.move (Operand.tmp 15), type := 163, pos := "ref.go:41", after := #[], guard := none }) (v := ?_) rfl (by kernel_rfl) (fun _ _ _ h => h) (Or.inl ⟨by rfl, ?_⟩) (by assumption) ?_
          rotate_left
          · (intro wz hSw; (try dsimp only at hSw); go_simp; (try with_reducible rfl))
          (try simp only [Act.put, List.setIfInBounds_toArray, List.set_cons_zero, List.set_cons_succ])
          refine wpAnyZ_take (i := 10) (oi := { dst := some 161, op := Op.move (Operand.tmp 20), type := 163, pos := "ref.go:41", after := #[], guard := none }) (v := ?_) rfl (by kernel_rfl) (fun _ _ _ h => h) (Or.inl ⟨by rfl, ?_⟩) (by assumption) ?_
          rotate_left
          · (intro wz hSw; (try dsimp only at hSw); go_simp; (try with_reducible rfl))
          (try simp only [Act.put, List.setIfInBounds_toArray, List.set_cons_zero, List.set_cons_succ])
          refine wpAnyZ_take (i := 12) (oi := { dst := some 163, op := Op.move (Operand.tmp 0), type := 168, pos := "ref.go:41", after := #[], guard := none }) (v := ?_) rfl (by kernel_rfl) (fun _ _ _ h => h) (Or.inl ⟨by rfl, ?_⟩) (by assumption) ?_
          rotate_left
          · (intro wz hSw; (try dsimp only at hSw); go_simp; (try with_reducible rfl))
          (try simp only [Act.put, List.setIfInBounds_toArray, List.set_cons_zero, List.set_cons_succ])
          refine wpAnyZ_take (i := 13) (oi := { dst := some 164, op := Op.move (Operand.tmp 19), type := 3, pos := "ref.go:41", after := #[], guard := none }) (v := ?_) rfl (by kernel_rfl) (fun _ _ _ h => h) (Or.inl ⟨by rfl, ?_⟩) (by assumption) ?_
          rotate_left
          · (intro wz hSw; (try dsimp only at hSw); go_simp; (try with_reducible rfl))
          (try simp only [Act.put, List.setIfInBounds_toArray, List.set_cons_zero, List.set_cons_succ])
          refine wpAnyZ_take (i := 14) (oi := { dst := some 165, op := Op.indexAddr 168 (Operand.tmp 163) (Operand.tmp 164), type := 0, pos := "ref.go:41", after := #[{ on := 12, ground := Ground.data }, { on := 13, ground := Ground.data }], guard := none }) (v := ?_) rfl (by kernel_rfl) (fun _ _ _ h => h) (Or.inl ⟨by rfl, ?_⟩) (by assumption) ?_
          rotate_left
          · (intro wz hSw; (try dsimp only at hSw); go_simp; (try with_reducible rfl))
          (try simp only [Act.put, List.setIfInBounds_toArray, List.set_cons_zero, List.set_cons_succ])
          refine wpAnyZ_take (i := 15) (oi := { dst := some 166, op := Op.load 163 (Operand.tmp 165), type := 163, pos := "ref.go:41", after := #[{ on := 14, ground := Ground.data }], guard := none }) (v := ?_) rfl (by kernel_rfl) (fun _ _ _ h => h) (Or.inl ⟨by rfl, ?_⟩) (by assumption) ?_
          rotate_left
          · (intro wz hSw; (try dsimp only at hSw); go_simp; (try with_reducible rfl))
          (try simp only [Act.put, List.setIfInBounds_toArray, List.set_cons_zero, List.set_cons_succ])
          refine wpAnyZ_take (i := 17) (oi := { dst := some 168, op := Op.move (Operand.tmp 7), type := 168, pos := "ref.go:41", after := #[], guard := none }) (v := ?_) rfl (by kernel_rfl) (fun _ _ _ h => h) (Or.inl ⟨by rfl, ?_⟩) (by assumption) ?_
          rotate_left
          · (intro wz hSw; (try dsimp only at hSw); go_simp; (try with_reducible rfl))
          (try simp only [Act.put, List.setIfInBounds_toArray, List.set_cons_zero, List.set_cons_succ])
          refine wpAnyZ_take (i := 18) (oi := { dst := some 169, op := Op.move (Operand.tmp 19), type := 3, pos := "ref.go:41", after := #[], guard := none }) (v := ?_) rfl (by kernel_rfl) (fun _ _ _ h => h) (Or.inl ⟨by rfl, ?_⟩) (by assumption) ?_
          rotate_left
          · (intro wz hSw; (try dsimp only at hSw); go_simp; (try with_reducible rfl))
          (try simp only [Act.put, List.setIfInBounds_toArray, List.set_cons_zero, List.set_cons_succ])
          refine wpAnyZ_take (i := 19) (oi := { dst := some 170, op := Op.indexAddr 168 (Operand.tmp 168) (Operand.tmp 169), type := 0, pos := "ref.go:41", after := #[{ on := 17, ground := Ground.data }, { on := 18, ground := Ground.data }], guard := none }) (v := ?_) rfl (by kernel_rfl) (fun _ _ _ h => h) (Or.inl ⟨by rfl, ?_⟩) (by assumption) ?_
          rotate_left
          · (intro wz hSw; (try dsimp only at hSw); go_simp; (try with_reducible rfl))
          (try simp only [Act.put, List.setIfInBounds_toArray, List.set_cons_zero, List.set_cons_succ])
          refine wpAnyZ_take (i := 20) (oi := { dst := some 171, op := Op.load 163 (Operand.tmp 170), type := 163, pos := "ref.go:41", after := #[{ on := 19, ground := Ground.data }], guard := none }) (v := ?_) rfl (by kernel_rfl) (fun _ _ _ h => h) (Or.inl ⟨by rfl, ?_⟩) (by assumption) ?_
          rotate_left
          · (intro wz hSw; (try dsimp only at hSw); go_simp; (try with_reducible rfl))
          (try simp only [Act.put, List.setIfInBounds_toArray, List.set_cons_zero, List.set_cons_succ])
          refine wpAnyZ_ready (rs := [2]) (by kernel_rfl) (by simp) ?_
          refine AllReadyZ.cons (o := { dst := some 153, op := Op.call { callee := Callee.value (Operand.func 127), args := #[Operand.tmp 152, Operand.const (Value.int IntKind.i64 6)], argTypes := #[163, 3] }, type := 163, pos := "ref.go:41", after := #[{ on := 1, ground := Ground.data }], guard := none }) rfl (fun KK hKK => ?_) AllReadyZ.nil
          go_simp
          refine (rr6 xe w1).mono ?_
          rintro e w2 ⟨rfl, hk⟩
          clear hHeld
          replace kr := kr.trans hk
          replace K9 := K9r.trans kr
          clear hk
          go_simp
          refine hKK.out _ _ ?_ (fun hHeld => ?_)
          · exact kr
          clear hKK KK
          (try simp only [Act.put, List.setIfInBounds_toArray, List.set_cons_zero, List.set_cons_succ])
          refine wpAnyZ_ready (rs := [4]) (by kernel_rfl) (by simp) ?_
          refine AllReadyZ.cons (o := { dst := some 155, op := Op.call { callee := Callee.value (Operand.func 127), args := #[Operand.tmp 154, Operand.const (Value.int IntKind.i64 11)], argTypes := #[163, 3] }, type := 163, pos := "ref.go:41", after := #[{ on := 3, ground := Ground.data }, { on := 2, ground := Ground.chain }], guard := none }) rfl (fun KK hKK => ?_) AllReadyZ.nil
          go_simp
          refine (rr11 xe w2).mono ?_
          rintro e w3 ⟨rfl, hk⟩
          clear hHeld
          replace kr := kr.trans hk
          replace K9 := K9r.trans kr
          clear hk
          go_simp
          refine hKK.out _ _ ?_ (fun hHeld => ?_)
          · exact kr
          clear hKK KK
          (try simp only [Act.put, List.setIfInBounds_toArray, List.set_cons_zero, List.set_cons_succ])
          refine wpAnyZ_take (i := 5) (oi := { dst := some 156, op := Op.binOp BinOp.xor 163 (Operand.tmp 153) (Operand.tmp 155) 163, type := 163, pos := "ref.go:41", after := #[{ on := 2, ground := Ground.data }, { on := 4, ground := Ground.data }], guard := none }) (v := ?_) rfl (by kernel_rfl) (fun _ _ _ h => h) (Or.inl ⟨by rfl, ?_⟩) (by assumption) ?_
          rotate_left
          · (intro wz hSw; (try dsimp only at hSw); go_simp; (try with_reducible rfl))
          (try simp only [Act.put, List.setIfInBounds_toArray, List.set_cons_zero, List.set_cons_succ])
          refine wpAnyZ_ready (rs := [7]) (by kernel_rfl) (by simp) ?_
          refine AllReadyZ.cons (o := { dst := some 158, op := Op.call { callee := Callee.value (Operand.func 127), args := #[Operand.tmp 157, Operand.const (Value.int IntKind.i64 25)], argTypes := #[163, 3] }, type := 163, pos := "ref.go:41", after := #[{ on := 6, ground := Ground.data }, { on := 4, ground := Ground.chain }], guard := none }) rfl (fun KK hKK => ?_) AllReadyZ.nil
          go_simp
          refine (rr25 xe w3).mono ?_
          rintro e w4 ⟨rfl, hk⟩
          clear hHeld
          replace kr := kr.trans hk
          replace K9 := K9r.trans kr
          clear hk
          go_simp
          refine hKK.out _ _ ?_ (fun hHeld => ?_)
          · exact kr
          clear hKK KK
          (try simp only [Act.put, List.setIfInBounds_toArray, List.set_cons_zero, List.set_cons_succ])
          refine wpAnyZ_take (i := 8) (oi := { dst := some 159, op := Op.binOp BinOp.xor 163 (Operand.tmp 156) (Operand.tmp 158) 163, type := 163, pos := "ref.go:41", after := #[{ on := 5, ground := Ground.data }, { on := 7, ground := Ground.data }], guard := none }) (v := ?_) rfl (by kernel_rfl) (fun _ _ _ h => h) (Or.inl ⟨by rfl, ?_⟩) (by assumption) ?_
          rotate_left
          · (intro wz hSw; (try dsimp only at hSw); go_simp; (try with_reducible rfl))
          (try simp only [Act.put, List.setIfInBounds_toArray, List.set_cons_zero, List.set_cons_succ])
          refine wpAnyZ_take (i := 9) (oi := { dst := some 160, op := Op.binOp BinOp.add 163 (Operand.tmp 151) (Operand.tmp 159) 163, type := 163, pos := "ref.go:41", after := #[{ on := 0, ground := Ground.data }, { on := 8, ground := Ground.data }], guard := none }) (v := ?_) rfl (by kernel_rfl) (fun _ _ _ h => h) (Or.inl ⟨by rfl, ?_⟩) (by assumption) ?_
          rotate_left
          · (intro wz hSw; (try dsimp only at hSw); go_simp; (try with_reducible rfl))
          (try simp only [Act.put, List.setIfInBounds_toArray, List.set_cons_zero, List.set_cons_succ])
          refine wpAnyZ_take (i := 11) (oi := { dst := some 162, op := Op.binOp BinOp.add 163 (Operand.tmp 160) (Operand.tmp 161) 163, type := 163, pos := "ref.go:41", after := #[{ on := 9, ground := Ground.data }, { on := 10, ground := Ground.data }], guard := none }) (v := ?_) rfl (by kernel_rfl) (fun _ _ _ h => h) (Or.inl ⟨by rfl, ?_⟩) (by assumption) ?_
          rotate_left
          · (intro wz hSw; (try dsimp only at hSw); go_simp; (try with_reducible rfl))
          (try simp only [Act.put, List.setIfInBounds_toArray, List.set_cons_zero, List.set_cons_succ])
          refine wpAnyZ_take (i := 16) (oi := { dst := some 167, op := Op.binOp BinOp.add 163 (Operand.tmp 162) (Operand.tmp 166) 163, type := 163, pos := "ref.go:41", after := #[{ on := 11, ground := Ground.data }, { on := 15, ground := Ground.data }], guard := none }) (v := ?_) rfl (by kernel_rfl) (fun _ _ _ h => h) (Or.inl ⟨by rfl, ?_⟩) (by assumption) ?_
          rotate_left
          · (intro wz hSw; (try dsimp only at hSw); go_simp; (try with_reducible rfl))
          (try simp only [Act.put, List.setIfInBounds_toArray, List.set_cons_zero, List.set_cons_succ])
          refine wpAnyZ_take (i := 21) (oi := { dst := some 172, op := Op.binOp BinOp.add 163 (Operand.tmp 167) (Operand.tmp 171) 163, type := 163, pos := "ref.go:41", after := #[{ on := 16, ground := Ground.data }, { on := 20, ground := Ground.data }], guard := none }) (v := ?_) rfl (by kernel_rfl) (fun _ _ _ h => h) (Or.inl ⟨by rfl, ?_⟩) (by assumption) ?_
          rotate_left
          · (intro wz hSw; (try dsimp only at hSw); go_simp; (try with_reducible rfl))
          (try simp only [Act.put, List.setIfInBounds_toArray, List.set_cons_zero, List.set_cons_succ])
          refine wpAnyZ_take (i := 22) (oi := { dst := some 22, op := Op.assign (Operand.tmp 172), type := 163, pos := "ref.go:41", after := #[{ on := 21, ground := Ground.data }, { on := 7, ground := Ground.chain }, { on := 0, ground := Ground.phase }, { on := 1, ground := Ground.phase }, { on := 2, ground := Ground.phase }, { on := 3, ground := Ground.phase }, { on := 4, ground := Ground.phase }, { on := 5, ground := Ground.phase }, { on := 6, ground := Ground.phase }, { on := 7, ground := Ground.phase }, { on := 8, ground := Ground.phase }, { on := 9, ground := Ground.phase }, { on := 10, ground := Ground.phase }, { on := 11, ground := Ground.phase }, { on := 12, ground := Ground.phase }, { on := 13, ground := Ground.phase }, { on := 14, ground := Ground.phase }, { on := 15, ground := Ground.phase }, { on := 16, ground := Ground.phase }, { on := 17, ground := Ground.phase }, { on := 18, ground := Ground.phase }, { on := 19, ground := Ground.phase }, { on := 20, ground := Ground.phase }, { on := 21, ground := Ground.phase }], guard := none }) (v := ?_) rfl (by kernel_rfl) (fun _ _ _ h => h) (Or.inl ⟨by rfl, ?_⟩) (by assumption) ?_
          rotate_left
          · (intro wz hSw; (try dsimp only at hSw); go_simp; (try with_reducible rfl))
          (try simp only [Act.put, List.setIfInBounds_toArray, List.set_cons_zero, List.set_cons_succ])
          refine wpAnyZ_done (by kernel_rfl) ?_ _
          clear CK CW K9r zr hHeld kr
          go_wp2_with fail
          refine (rr2 xa _).mono ?_
          rintro e w5 ⟨rfl, hk⟩
          replace K9 := K9.trans hk
          clear hk
          go_wp2_with fail
          refine (rr13 xa _).mono ?_
          rintro e w6 ⟨rfl, hk⟩
          replace K9 := K9.trans hk
          clear hk
          go_wp2_with fail
          refine (rr22 xa _).mono ?_
          rintro e w7 ⟨rfl, hk⟩
          replace K9 := K9.trans hk
          clear hk
          go_wp2_with fail
          go_roundw
          case rel =>
            have hrn := HRN.out
            simp only [uadd]
            exact ⟨j + 1, by omega, by go_num, by rw [hrn], by rw [hrn], by rw [hrn], by rw [hrn], by rw [hrn], by rw [hrn], by rw [hrn], by rw [hrn], K9⟩
          case measure => simp [intOf]; omega
        · obtain rfl : j = i := by have := HN.out; omega
          replace K := K.trans K9
          have hhb2 : hb < wr.heap.size := Nat.lt_of_lt_of_le hhb K.size
          replace h0 := (K9.cell (p := ⟨hb, ho, none⟩) hhbE).trans h0
          replace h1 := (K9.cell (p := ⟨hb, ho + 1, none⟩) hhbE).trans h1
          replace h2 := (K9.cell (p := ⟨hb, ho + 2, none⟩) hhbE).trans h2
          replace h3 := (K9.cell (p := ⟨hb, ho + 3, none⟩) hhbE).trans h3
          replace h4 := (K9.cell (p := ⟨hb, ho + 4, none⟩) hhbE).trans h4
          replace h5 := (K9.cell (p := ⟨hb, ho + 5, none⟩) hhbE).trans h5
          replace h6 := (K9.cell (p := ⟨hb, ho + 6, none⟩) hhbE).trans h6
          replace h7 := (K9.cell (p := ⟨hb, ho + 7, none⟩) hhbE).trans h7
          generalize hs1 : R j = s1 at *
          have HS1 := Lib.hid hs1
          clear hs1
          have ua : IntKind.u32.wrap ((st.a.toNat : Int) + (s1.a.toNat : Int)) = ((st.a + s1.a).toNat : Int) := by rw [IntKind.wrap_u32', uadd]
          have ub : IntKind.u32.wrap ((st.b.toNat : Int) + (s1.b.toNat : Int)) = ((st.b + s1.b).toNat : Int) := by rw [IntKind.wrap_u32', uadd]
          have uc : IntKind.u32.wrap ((st.c.toNat : Int) + (s1.c.toNat : Int)) = ((st.c + s1.c).toNat : Int) := by rw [IntKind.wrap_u32', uadd]
          have ud : IntKind.u32.wrap ((st.d.toNat : Int) + (s1.d.toNat : Int)) = ((st.d + s1.d).toNat : Int) := by rw [IntKind.wrap_u32', uadd]
          have ue : IntKind.u32.wrap ((st.e.toNat : Int) + (s1.e.toNat : Int)) = ((st.e + s1.e).toNat : Int) := by rw [IntKind.wrap_u32', uadd]
          have uf : IntKind.u32.wrap ((st.f.toNat : Int) + (s1.f.toNat : Int)) = ((st.f + s1.f).toNat : Int) := by rw [IntKind.wrap_u32', uadd]
          have ug : IntKind.u32.wrap ((st.g.toNat : Int) + (s1.g.toNat : Int)) = ((st.g + s1.g).toNat : Int) := by rw [IntKind.wrap_u32', uadd]
          have uh : IntKind.u32.wrap ((st.h.toNat : Int) + (s1.h.toNat : Int)) = ((st.h + s1.h).toNat : Int) := by rw [IntKind.wrap_u32', uadd]
          have HAD : Hid (stv (addSt st s1) = [u32v (st.a + s1.a), u32v (st.b + s1.b), u32v (st.c + s1.c), u32v (st.d + s1.d), u32v (st.e + s1.e), u32v (st.f + s1.f), u32v (st.g + s1.g), u32v (st.h + s1.h)]) := rfl
          generalize st.a + s1.a = za at *
          generalize st.b + s1.b = zb at *
          generalize st.c + s1.c = zc at *
          generalize st.d + s1.d = zd at *
          generalize st.e + s1.e = ze at *
          generalize st.f + s1.f = zf at *
          generalize st.g + s1.g = zg at *
          generalize st.h + s1.h = zh at *
          go_upto_region 18 with fail
          have CH0 : ∀ W', Kept wr W' → W'.cell? ⟨hb, ho, none⟩ = some (u32v st.a) := fun W' hk => (hk.cell (p := ⟨hb, ho, none⟩) hhb2).trans h0
          have CH1 : ∀ W', Kept wr W' → W'.cell? ⟨hb, ho + 1, none⟩ = some (u32v st.b) := fun W' hk => (hk.cell (p := ⟨hb, ho + 1, none⟩) hhb2).trans h1
          have CH2 : ∀ W', Kept wr W' → W'.cell? ⟨hb, ho + 2, none⟩ = some (u32v st.c) := fun W' hk => (hk.cell (p := ⟨hb, ho + 2, none⟩) hhb2).trans h2
          have CH3 : ∀ W', Kept wr W' → W'.cell? ⟨hb, ho + 3, none⟩ = some (u32v st.d) := fun W' hk => (hk.cell (p := ⟨hb, ho + 3, none⟩) hhb2).trans h3
          have CH4 : ∀ W', Kept wr W' → W'.cell? ⟨hb, ho + 4, none⟩ = some (u32v st.e) := fun W' hk => (hk.cell (p := ⟨hb, ho + 4, none⟩) hhb2).trans h4
          have CH5 : ∀ W', Kept wr W' → W'.cell? ⟨hb, ho + 5, none⟩ = some (u32v st.f) := fun W' hk => (hk.cell (p := ⟨hb, ho + 5, none⟩) hhb2).trans h5
          have CH6 : ∀ W', Kept wr W' → W'.cell? ⟨hb, ho + 6, none⟩ = some (u32v st.g) := fun W' hk => (hk.cell (p := ⟨hb, ho + 6, none⟩) hhb2).trans h6
          have CH7 : ∀ W', Kept wr W' → W'.cell? ⟨hb, ho + 7, none⟩ = some (u32v st.h) := fun W' hk => (hk.cell (p := ⟨hb, ho + 7, none⟩) hhb2).trans h7
          refine wp_region_Z (S := fun W' => Kept wr W') (Z := []) (by kernel_rfl) ((Kept.refl wr).drew) (fun hHeld => ?_)
          have kr := (Kept.refl wr).drew
          have Kr := K
          have zr := K.size
          replace K := Kr.trans kr
          generalize wr.drew = w1 at *
          refine wpAnyZ_take (i := 0) (oi := { dst := some 195, op := Op.move (Operand.tmp 1), type := 168, pos := "ref.go:45", after := #[], guard := none }) (v := ?_) rfl (by kernel_rfl) (fun _ _ _ h => h) (Or.inl ⟨by rfl, ?_⟩) (by assumption) ?_
          rotate_left
          · (intro wz hSw; (try dsimp only at hSw); go_simp; (try with_reducible rfl))
          (try simp only [Act.put, List.setIfInBounds_toArray, List.set_cons_zero, List.set_cons_succ])
          refine wpAnyZ_take (i := 1) (oi := { dst := some 196, op := Op.indexAddr 168 (Operand.tmp 195) (Operand.const (Value.int IntKind.i64 0)), type := 0, pos := "ref.go:45", after := #[{ on := 0, ground := Ground.data }], guard := none }) (v := ?_) rfl (by kernel_rfl) (fun _ _ _ h => h) (Or.inl ⟨by rfl, ?_⟩) (by assumption) ?_
          rotate_left
          · (intro wz hSw; (try dsimp only at hSw); go_simp; (try with_reducible rfl))
          (try simp only [Act.put, List.setIfInBounds_toArray, List.set_cons_zero, List.set_cons_succ])
          refine wpAnyZ_take (i := 2) (oi := { dst := some 197, op := Op.load 163 (Operand.tmp 196), type := 163, pos := "ref.go:45", after := #[{ on := 1, ground := Ground.data }], guard := none }) (v := ?_) rfl (by kernel_rfl) (fun _ _ _ h => h) (Or.inl ⟨by rfl, ?_⟩) (by assumption) ?_
          rotate_left
          · (intro wz hSw; (try dsimp only at hSw); go_simp; (try with_reducible rfl))
          (try simp only [Act.put, List.setIfInBounds_toArray, List.set_cons_zero, List.set_cons_succ])
          refine wpAnyZ_take (i := 3) (oi := { dst := some 198, op := Op.move (Operand.tmp 11), type := 163, pos := "ref.go:45", after := #[], guard := none }) (v := ?_) rfl (by kernel_rfl) (fun _ _ _ h => h) (Or.inl ⟨by rfl, ?_⟩) (by assumption) ?_
          rotate_left
          · (intro wz hSw; (try dsimp only at hSw); go_simp; (try with_reducible rfl))
          (try simp only [Act.put, List.setIfInBounds_toArray, List.set_cons_zero, List.set_cons_succ])
          refine wpAnyZ_take (i := 4) (oi := { dst := some 199, op := Op.binOp BinOp.add 163 (Operand.tmp 197) (Operand.tmp 198) 163, type := 163, pos := "ref.go:45", after := #[{ on := 2, ground := Ground.data }, { on := 3, ground := Ground.data }], guard := none }) (v := ?_) rfl (by kernel_rfl) (fun _ _ _ h => h) (Or.inl ⟨by rfl, ?_⟩) (by assumption) ?_
          rotate_left
          · (intro wz hSw; (try dsimp only at hSw); go_simp; (try with_reducible rfl))
          (try simp only [Act.put, List.setIfInBounds_toArray, List.set_cons_zero, List.set_cons_succ])
          refine wpAnyZ_take (i := 5) (oi := { dst := some 200, op := Op.move (Operand.tmp 1), type := 168, pos := "ref.go:45", after := #[], guard := none }) (v := ?_) rfl (by kernel_rfl) (fun _ _ _ h => h) (Or.inl ⟨by rfl, ?_⟩) (by assumption) ?_
          rotate_left
          · (intro wz hSw; (try dsimp only at hSw); go_simp; (try with_reducible rfl))
          (try simp only [Act.put, List.setIfInBounds_toArray, List.set_cons_zero, List.set_cons_succ])
          refine wpAnyZ_take (i := 6) (oi := { dst := some 201, op := Op.indexAddr 168 (Operand.tmp 200) (Operand.const (Value.int IntKind.i64 1)), type := 0, pos := "ref.go:45", after := #[{ on := 5, ground := Ground.data }], guard := none }) (v := ?_) rfl (by kernel_rfl) (fun _ _ _ h => h) (Or.inl ⟨by rfl, ?_⟩) (by assumption) ?_
          rotate_left
          · (intro wz hSw; (try dsimp only at hSw); go_simp; (try with_reducible rfl))
          (try simp only [Act.put, List.setIfInBounds_toArray, List.set_cons_zero, List.set_cons_succ])
          refine wpAnyZ_take (i := 7) (oi := { dst := some 202, op := Op.load 163 (Operand.tmp 201), type := 163, pos := "ref.go:45", after := #[{ on := 6, ground := Ground.data }], guard := none }) (v := ?_) rfl (by kernel_rfl) (fun _ _ _ h => h) (Or.inl ⟨by rfl, ?_⟩) (by assumption) ?_
          rotate_left
          · (intro wz hSw; (try dsimp only at hSw); go_simp; (try with_reducible rfl))
          (try simp only [Act.put, List.setIfInBounds_toArray, List.set_cons_zero, List.set_cons_succ])
          refine wpAnyZ_take (i := 8) (oi := { dst := some 203, op := Op.move (Operand.tmp 12), type := 163, pos := "ref.go:45", after := #[], guard := none }) (v := ?_) rfl (by kernel_rfl) (fun _ _ _ h => h) (Or.inl ⟨by rfl, ?_⟩) (by assumption) ?_
          rotate_left
          · (intro wz hSw; (try dsimp only at hSw); go_simp; (try with_reducible rfl))
          (try simp only [Act.put, List.setIfInBounds_toArray, List.set_cons_zero, List.set_cons_succ])
          refine wpAnyZ_take (i := 9) (oi := { dst := some 204, op := Op.binOp BinOp.add 163 (Operand.tmp 202) (Operand.tmp 203) 163, type := 163, pos := "ref.go:45", after := #[{ on := 7, ground := Ground.data }, { on := 8, ground := Ground.data }], guard := none }) (v := ?_) rfl (by kernel_rfl) (fun _ _ _ h => h) (Or.inl ⟨by rfl, ?_⟩) (by assumption) ?_
          rotate_left
          · (intro wz hSw; (try dsimp only at hSw); go_simp; (try with_reducible rfl))
          (try simp only [Act.put, List.setIfInBounds_toArray, List.set_cons_zero, List.set_cons_succ])
          refine wpAnyZ_take (i := 10) (oi := { dst := some 205, op := Op.move (Operand.tmp 1), type := 168, pos := "ref.go:45", after := #[], guard := none }) (v := ?_) rfl (by kernel_rfl) (fun _ _ _ h => h) (Or.inl ⟨by rfl, ?_⟩) (by assumption) ?_
          rotate_left
          · (intro wz hSw; (try dsimp only at hSw); go_simp; (try with_reducible rfl))
          (try simp only [Act.put, List.setIfInBounds_toArray, List.set_cons_zero, List.set_cons_succ])
          refine wpAnyZ_take (i := 11) (oi := { dst := some 206, op := Op.indexAddr 168 (Operand.tmp 205) (Operand.const (Value.int IntKind.i64 2)), type := 0, pos := "ref.go:45", after := #[{ on := 10, ground := Ground.data }], guard := none }) (v := ?_) rfl (by kernel_rfl) (fun _ _ _ h => h) (Or.inl ⟨by rfl, ?_⟩) (by assumption) ?_
          rotate_left
          · (intro wz hSw; (try dsimp only at hSw); go_simp; (try with_reducible rfl))
          (try simp only [Act.put, List.setIfInBounds_toArray, List.set_cons_zero, List.set_cons_succ])
          refine wpAnyZ_take (i := 12) (oi := { dst := some 207, op := Op.load 163 (Operand.tmp 206), type := 163, pos := "ref.go:45", after := #[{ on := 11, ground := Ground.data }], guard := none }) (v := ?_) rfl (by kernel_rfl) (fun _ _ _ h => h) (Or.inl ⟨by rfl, ?_⟩) (by assumption) ?_
          rotate_left
          · (intro wz hSw; (try dsimp only at hSw); go_simp; (try with_reducible rfl))
          (try simp only [Act.put, List.setIfInBounds_toArray, List.set_cons_zero, List.set_cons_succ])
          refine wpAnyZ_take (i := 13) (oi := { dst := some 208, op := Op.move (Operand.tmp 13), type := 163, pos := "ref.go:45", after := #[], guard := none }) (v := ?_) rfl (by kernel_rfl) (fun _ _ _ h => h) (Or.inl ⟨by rfl, ?_⟩) (by assumption) ?_
          rotate_left
          · (intro wz hSw; (try dsimp only at hSw); go_simp; (try with_reducible rfl))
          (try simp only [Act.put, List.setIfInBounds_toArray, List.set_cons_zero, List.set_cons_succ])
          refine wpAnyZ_take (i := 14) (oi := { dst := some 209, op := Op.binOp BinOp.add 163 (Operand.tmp 207) (Operand.tmp 208) 163, type := 163, pos := "ref.go:45", after := #[{ on := 12, ground := Ground.data }, { on := 13, ground := Ground.data }], guard := none }) (v := ?_) rfl (by kernel_rfl) (fun _ _ _ h => h) (Or.inl ⟨by rfl, ?_⟩) (by assumption) ?_
          rotate_left
          · (intro wz hSw; (try dsimp only at hSw); go_simp; (try with_reducible rfl))
          (try simp only [Act.put, List.setIfInBounds_toArray, List.set_cons_zero, List.set_cons_succ])
          refine wpAnyZ_take (i := 15) (oi := { dst := some 210, op := Op.move (Operand.tmp 1), type := 168, pos := "ref.go:45", after := #[], guard := none }) (v := ?_) rfl (by kernel_rfl) (fun _ _ _ h => h) (Or.inl ⟨by rfl, ?_⟩) (by assumption) ?_
          rotate_left
          · (intro wz hSw; (try dsimp only at hSw); go_simp; (try with_reducible rfl))
          (try simp only [Act.put, List.setIfInBounds_toArray, List.set_cons_zero, List.set_cons_succ])
          refine wpAnyZ_take (i := 16) (oi := { dst := some 211, op := Op.indexAddr 168 (Operand.tmp 210) (Operand.const (Value.int IntKind.i64 3)), type := 0, pos := "ref.go:45", after := #[{ on := 15, ground := Ground.data }], guard := none }) (v := ?_) rfl (by kernel_rfl) (fun _ _ _ h => h) (Or.inl ⟨by rfl, ?_⟩) (by assumption) ?_
          rotate_left
          · (intro wz hSw; (try dsimp only at hSw); go_simp; (try with_reducible rfl))
          (try simp only [Act.put, List.setIfInBounds_toArray, List.set_cons_zero, List.set_cons_succ])
          refine wpAnyZ_take (i := 17) (oi := { dst := some 212, op := Op.load 163 (Operand.tmp 211), type := 163, pos := "ref.go:45", after := #[{ on := 16, ground := Ground.data }], guard := none }) (v := ?_) rfl (by kernel_rfl) (fun _ _ _ h => h) (Or.inl ⟨by rfl, ?_⟩) (by assumption) ?_
          rotate_left
          · (intro wz hSw; (try dsimp only at hSw); go_simp; (try with_reducible rfl))
          (try simp only [Act.put, List.setIfInBounds_toArray, List.set_cons_zero, List.set_cons_succ])
          refine wpAnyZ_take (i := 18) (oi := { dst := some 213, op := Op.move (Operand.tmp 14), type := 163, pos := "ref.go:45", after := #[], guard := none }) (v := ?_) rfl (by kernel_rfl) (fun _ _ _ h => h) (Or.inl ⟨by rfl, ?_⟩) (by assumption) ?_
          rotate_left
          · (intro wz hSw; (try dsimp only at hSw); go_simp; (try with_reducible rfl))
          (try simp only [Act.put, List.setIfInBounds_toArray, List.set_cons_zero, List.set_cons_succ])
          refine wpAnyZ_take (i := 19) (oi := { dst := some 214, op := Op.binOp BinOp.add 163 (Operand.tmp 212) (Operand.tmp 213) 163, type := 163, pos := "ref.go:45", after := #[{ on := 17, ground := Ground.data }, { on := 18, ground := Ground.data }], guard := none }) (v := ?_) rfl (by kernel_rfl) (fun _ _ _ h => h) (Or.inl ⟨by rfl, ?_⟩) (by assumption) ?_
          rotate_left
          · (intro wz hSw; (try dsimp only at hSw); go_simp; (try with_reducible rfl))
          (try simp only [Act.put, List.setIfInBounds_toArray, List.set_cons_zero, List.set_cons_succ])
          refine wpAnyZ_take (i := 20) (oi := { dst := some 215, op := Op.move (Operand.tmp 1), type := 168, pos := "ref.go:45", after := #[], guard := none }) (v := ?_) rfl (by kernel_rfl) (fun _ _ _ h => h) (Or.inl ⟨by rfl, ?_⟩) (by assumption) ?_
          rotate_left
          · (intro wz hSw; (try dsimp only at hSw); go_simp; (try with_reducible rfl))
          (try simp only [Act.put, List.setIfInBounds_toArray, List.set_cons_zero, List.set_cons_succ])
          refine wpAnyZ_take (i := 21) (oi := { dst := some 216, op := Op.indexAddr 168 (Operand.tmp 215) (Operand.const (Value.int IntKind.i64 4)), type := 0, pos := "ref.go:45", after := #[{ on := 20, ground := Ground.data }], guard := none }) (v := ?_) rfl (by kernel_rfl) (fun _ _ _ h => h) (Or.inl ⟨by rfl, ?_⟩) (by assumption) ?_
          rotate_left
          · (intro wz hSw; (try dsimp only at hSw); go_simp; (try with_reducible rfl))
          (try simp only [Act.put, List.setIfInBounds_toArray, List.set_cons_zero, List.set_cons_succ])
          refine wpAnyZ_take (i := 22) (oi := { dst := some 217, op := Op.load 163 (Operand.tmp 216), type := 163, pos := "ref.go:45", after := #[{ on := 21, ground := Ground.data }], guard := none }) (v := ?_) rfl (by kernel_rfl) (fun _ _ _ h => h) (Or.inl ⟨by rfl, ?_⟩) (by assumption) ?_
          rotate_left
          · (intro wz hSw; (try dsimp only at hSw); go_simp; (try with_reducible rfl))
          (try simp only [Act.put, List.setIfInBounds_toArray, List.set_cons_zero, List.set_cons_succ])
          refine wpAnyZ_take (i := 23) (oi := { dst := some 218, op := Op.move (Operand.tmp 15), type := 163, pos := "ref.go:45", after := #[], guard := none }) (v := ?_) rfl (by kernel_rfl) (fun _ _ _ h => h) (Or.inl ⟨by rfl, ?_⟩) (by assumption) ?_
          rotate_left
          · (intro wz hSw; (try dsimp only at hSw); go_simp; (try with_reducible rfl))
          (try simp only [Act.put, List.setIfInBounds_toArray, List.set_cons_zero, List.set_cons_succ])
          refine wpAnyZ_take (i := 24) (oi := { dst := some 219, op := Op.binOp BinOp.add 163 (Operand.tmp 217) (Operand.tmp 218) 163, type := 163, pos := "ref.go:45", after := #[{ on := 22, ground := Ground.data }, { on := 23, ground := Ground.data }], guard := none }) (v := ?_) rfl (by kernel_rfl) (fun _ _ _ h => h) (Or.inl ⟨by rfl, ?_⟩) (by assumption) ?_
          rotate_left
          · (intro wz hSw; (try dsimp only at hSw); go_simp; (try with_reducible rfl))
          (try simp only [Act.put, List.setIfInBounds_toArray, List.set_cons_zero, List.set_cons_succ])
          refine wpAnyZ_take (i := 25) (oi := { dst := some 220, op := Op.move (Operand.tmp 1), type := 168, pos := "ref.go:45", after := #[], guard := none }) (v := ?_) rfl (by kernel_rfl) (fun _ _ _ h => h) (Or.inl ⟨by rfl, ?_⟩) (by assumption) ?_
          rotate_left
          · (intro wz hSw; (try dsimp only at hSw); go_simp; (try with_reducible rfl))
          (try simp only [Act.put, List.setIfInBounds_toArray, List.set_cons_zero, List.set_cons_succ])
          refine wpAnyZ_take (i := 26) (oi := { dst := some 221, op := Op.indexAddr 168 (Operand.tmp 220) (Operand.const (Value.int IntKind.i64 5)), type := 0, pos := "ref.go:45", after := #[{ on := 25, ground := Ground.data }], guard := none }) (v := ?_) rfl (by kernel_rfl) (fun _ _ _ h => h) (Or.inl ⟨by rfl, ?_⟩) (by assumption) ?_
          rotate_left
          · (intro wz hSw; (try dsimp only at hSw); go_simp; (try with_reducible rfl))
          (try simp only [Act.put, List.setIfInBounds_toArray, List.set_cons_zero, List.set_cons_succ])
          refine wpAnyZ_take (i := 27) (oi := { dst := some 222, op := Op.load 163 (Operand.tmp 221), type := 163, pos := "ref.go:45", after := #[{ on := 26, ground := Ground.data }], guard := none }) (v := ?_) rfl (by kernel_rfl) (fun _ _ _ h => h) (Or.inl ⟨by rfl, ?_⟩) (by assumption) ?_
          rotate_left
          · (intro wz hSw; (try dsimp only at hSw); go_simp; (try with_reducible rfl))
          (try simp only [Act.put, List.setIfInBounds_toArray, List.set_cons_zero, List.set_cons_succ])
          refine wpAnyZ_take (i := 28) (oi := { dst := some 223, op := Op.move (Operand.tmp 16), type := 163, pos := "ref.go:45", after := #[], guard := none }) (v := ?_) rfl (by kernel_rfl) (fun _ _ _ h => h) (Or.inl ⟨by rfl, ?_⟩) (by assumption) ?_
          rotate_left
          · (intro wz hSw; (try dsimp only at hSw); go_simp; (try with_reducible rfl))
          (try simp only [Act.put, List.setIfInBounds_toArray, List.set_cons_zero, List.set_cons_succ])
          refine wpAnyZ_take (i := 29) (oi := { dst := some 224, op := Op.binOp BinOp.add 163 (Operand.tmp 222) (Operand.tmp 223) 163, type := 163, pos := "ref.go:45", after := #[{ on := 27, ground := Ground.data }, { on := 28, ground := Ground.data }], guard := none }) (v := ?_) rfl (by kernel_rfl) (fun _ _ _ h => h) (Or.inl ⟨by rfl, ?_⟩) (by assumption) ?_
          rotate_left
          · (intro wz hSw; (try dsimp only at hSw); go_simp; (try with_reducible rfl))
          (try simp only [Act.put, List.setIfInBounds_toArray, List.set_cons_zero, List.set_cons_succ])
          refine wpAnyZ_take (i := 30) (oi := { dst := some 225, op := Op.move (Operand.tmp 1), type := 168, pos := "ref.go:45", after := #[], guard := none }) (v := ?_) rfl (by kernel_rfl) (fun _ _ _ h => h) (Or.inl ⟨by rfl, ?_⟩) (by assumption) ?_
          rotate_left
          · (intro wz hSw; (try dsimp only at hSw); go_simp; (try with_reducible rfl))
          (try simp only [Act.put, List.setIfInBounds_toArray, List.set_cons_zero, List.set_cons_succ])
          refine wpAnyZ_take (i := 31) (oi := { dst := some 226, op := Op.indexAddr 168 (Operand.tmp 225) (Operand.const (Value.int IntKind.i64 6)), type := 0, pos := "ref.go:45", after := #[{ on := 30, ground := Ground.data }], guard := none }) (v := ?_) rfl (by kernel_rfl) (fun _ _ _ h => h) (Or.inl ⟨by rfl, ?_⟩) (by assumption) ?_
          rotate_left
          · (intro wz hSw; (try dsimp only at hSw); go_simp; (try with_reducible rfl))
          (try simp only [Act.put, List.setIfInBounds_toArray, List.set_cons_zero, List.set_cons_succ])
          refine wpAnyZ_take (i := 32) (oi := { dst := some 227, op := Op.load 163 (Operand.tmp 226), type := 163, pos := "ref.go:45", after := #[{ on := 31, ground := Ground.data }], guard := none }) (v := ?_) rfl (by kernel_rfl) (fun _ _ _ h => h) (Or.inl ⟨by rfl, ?_⟩) (by assumption) ?_
          rotate_left
          · (intro wz hSw; (try dsimp only at hSw); go_simp; (try with_reducible rfl))
          (try simp only [Act.put, List.setIfInBounds_toArray, List.set_cons_zero, List.set_cons_succ])
          refine wpAnyZ_take (i := 33) (oi := { dst := some 228, op := Op.move (Operand.tmp 17), type := 163, pos := "ref.go:45", after := #[], guard := none }) (v := ?_) rfl (by kernel_rfl) (fun _ _ _ h => h) (Or.inl ⟨by rfl, ?_⟩) (by assumption) ?_
          rotate_left
          · (intro wz hSw; (try dsimp only at hSw); go_simp; (try with_reducible rfl))
          (try simp only [Act.put, List.setIfInBounds_toArray, List.set_cons_zero, List.set_cons_succ])
          refine wpAnyZ_take (i := 34) (oi := { dst := some 229, op := Op.binOp BinOp.add 163 (Operand.tmp 227) (Operand.tmp 228) 163, type := 163, pos := "ref.go:45", after := #[{ on := 32, ground := Ground.data }, { on := 33, ground := Ground.data }], guard := none }) (v := ?_) rfl (by kernel_rfl) (fun _ _ _ h => h) (Or.inl ⟨by rfl, ?_⟩) (by assumption) ?_
          rotate_left
          · (intro wz hSw; (try dsimp only at hSw); go_simp; (try with_reducible rfl))
          (try simp only [Act.put, List.setIfInBounds_toArray, List.set_cons_zero, List.set_cons_succ])
          refine wpAnyZ_take (i := 35) (oi := { dst := some 230, op := Op.move (Operand.tmp 1), type := 168, pos := "ref.go:45", after := #[], guard := none }) (v := ?_) rfl (by kernel_rfl) (fun _ _ _ h => h) (Or.inl ⟨by rfl, ?_⟩) (by assumption) ?_
          rotate_left
          · (intro wz hSw; (try dsimp only at hSw); go_simp; (try with_reducible rfl))
          (try simp only [Act.put, List.setIfInBounds_toArray, List.set_cons_zero, List.set_cons_succ])
          refine wpAnyZ_take (i := 36) (oi := { dst := some 231, op := Op.indexAddr 168 (Operand.tmp 230) (Operand.const (Value.int IntKind.i64 7)), type := 0, pos := "ref.go:45", after := #[{ on := 35, ground := Ground.data }], guard := none }) (v := ?_) rfl (by kernel_rfl) (fun _ _ _ h => h) (Or.inl ⟨by rfl, ?_⟩) (by assumption) ?_
          rotate_left
          · (intro wz hSw; (try dsimp only at hSw); go_simp; (try with_reducible rfl))
          (try simp only [Act.put, List.setIfInBounds_toArray, List.set_cons_zero, List.set_cons_succ])
          refine wpAnyZ_take (i := 37) (oi := { dst := some 232, op := Op.load 163 (Operand.tmp 231), type := 163, pos := "ref.go:45", after := #[{ on := 36, ground := Ground.data }], guard := none }) (v := ?_) rfl (by kernel_rfl) (fun _ _ _ h => h) (Or.inl ⟨by rfl, ?_⟩) (by assumption) ?_
          rotate_left
          · (intro wz hSw; (try dsimp only at hSw); go_simp; (try with_reducible rfl))
          (try simp only [Act.put, List.setIfInBounds_toArray, List.set_cons_zero, List.set_cons_succ])
          refine wpAnyZ_take (i := 38) (oi := { dst := some 233, op := Op.move (Operand.tmp 18), type := 163, pos := "ref.go:45", after := #[], guard := none }) (v := ?_) rfl (by kernel_rfl) (fun _ _ _ h => h) (Or.inl ⟨by rfl, ?_⟩) (by assumption) ?_
          rotate_left
          · (intro wz hSw; (try dsimp only at hSw); go_simp; (try with_reducible rfl))
          (try simp only [Act.put, List.setIfInBounds_toArray, List.set_cons_zero, List.set_cons_succ])
          refine wpAnyZ_take (i := 39) (oi := { dst := some 234, op := Op.binOp BinOp.add 163 (Operand.tmp 232) (Operand.tmp 233) 163, type := 163, pos := "ref.go:45", after := #[{ on := 37, ground := Ground.data }, { on := 38, ground := Ground.data }], guard := none }) (v := ?_) rfl (by kernel_rfl) (fun _ _ _ h => h) (Or.inl ⟨by rfl, ?_⟩) (by assumption) ?_
          rotate_left
          · (intro wz hSw; (try dsimp only at hSw); go_simp; (try with_reducible rfl))
          (try simp only [Act.put, List.setIfInBounds_toArray, List.set_cons_zero, List.set_cons_succ])
          refine wpAnyZ_ready (rs := [40]) (by kernel_rfl) (by simp) ?_
          refine AllReadyZ.cons (o := { dst := some 235, op := Op.buildSlice 168 8 #[(0, Operand.tmp 199), (1, Operand.tmp 204), (2, Operand.tmp 209), (3, Operand.tmp 214), (4, Operand.tmp 219), (5, Operand.tmp 224), (6, Operand.tmp 229), (7, Operand.tmp 234)], type := 168, pos := "ref.go:45", after := #[{ on := 4, ground := Ground.data }, { on := 9, ground := Ground.data }, { on := 14, ground := Ground.data }, { on := 19, ground := Ground.data }, { on := 24, ground := Ground.data }, { on := 29, ground := Ground.data }, { on := 34, ground := Ground.data }, { on := 39, ground := Ground.data }], guard := none }) rfl (fun KK hKK => ?_) AllReadyZ.nil
          go_simp
          replace kr := kr.alloc (.cells #[u32v za, u32v zb, u32v zc, u32v zd, u32v ze, u32v zf, u32v zg, u32v zh] 163)
          clear hHeld
          have OX := Lib.hid (Own.new w1 163 [u32v za, u32v zb, u32v zc, u32v zd, u32v ze, u32v zf, u32v zg, u32v zh])
          replace K := Kr.trans kr
          generalize (w1.alloc (.cells #[u32v za, u32v zb, u32v zc, u32v zd, u32v ze, u32v zf, u32v zg, u32v zh] 163)) = w2 at *
          generalize w1.heap.size = bX at *
          refine hKK.out _ _ ?_ (fun hHeld => ?_)
          · exact kr
          clear hKK KK
          (try simp only [Act.put, List.setIfInBounds_toArray, List.set_cons_zero, List.set_cons_succ])
          refine wpAnyZ_take (i := 41) (oi := { dst := some 6, op := Op.assign (Operand.tmp 235), type := 168, pos := "ref.go:45", after := #[{ on := 40, ground := Ground.data }, { on := 0, ground := Ground.phase }, { on := 1, ground := Ground.phase }, { on := 2, ground := Ground.phase }, { on := 3, ground := Ground.phase }, { on := 4, ground := Ground.phase }, { on := 5, ground := Ground.phase }, { on := 6, ground := Ground.phase }, { on := 7, ground := Ground.phase }, { on := 8, ground := Ground.phase }, { on := 9, ground := Ground.phase }, { on := 10, ground := Ground.phase }, { on := 11, ground := Ground.phase }, { on := 12, ground := Ground.phase }, { on := 13, ground := Ground.phase }, { on := 14, ground := Ground.phase }, { on := 15, ground := Ground.phase }, { on := 16, ground := Ground.phase }, { on := 17, ground := Ground.phase }, { on := 18, ground := Ground.phase }, { on := 19, ground := Ground.phase }, { on := 20, ground := Ground.phase }, { on := 21, ground := Ground.phase }, { on := 22, ground := Ground.phase }, { on := 23, ground := Ground.phase }, { on := 24, ground := Ground.phase }, { on := 25, ground := Ground.phase }, { on := 26, ground := Ground.phase }, { on := 27, ground := Ground.phase }, { on := 28, ground := Ground.phase }, { on := 29, ground := Ground.phase }, { on := 30, ground := Ground.phase }, { on := 31, ground := Ground.phase }, { on := 32, ground := Ground.phase }, { on := 33, ground := Ground.phase }, { on := 34, ground := Ground.phase }, { on := 35, ground := Ground.phase }, { on := 36, ground := Ground.phase }, { on := 37, ground := Ground.phase }, { on := 38, ground := Ground.phase }, { on := 39, ground := Ground.phase }, { on := 40, ground := Ground.phase }], guard := none }) (v := ?_) rfl (by kernel_rfl) (fun _ _ _ h => h) (Or.inl ⟨by rfl, ?_⟩) (by assumption) ?_
          rotate_left
          · (intro wz hSw; (try dsimp only at hSw); go_simp; (try with_reducible rfl))
          (try simp only [Act.put, List.setIfInBounds_toArray, List.set_cons_zero, List.set_cons_succ])
          refine wpAnyZ_done (by kernel_rfl) ?_ _
          clear CH0 CH1 CH2 CH3 CH4 CH5 CH6 CH7 Kr zr hHeld kr
          go_wp2
          go_ret
          refine ⟨_, rfl, ?_, K⟩
          rw [HS1.out, HAD.out]
          exact OX.out.row (by simp)
end Go.Proofs.YtagpimahicgkmaaDoor
