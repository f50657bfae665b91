/- Walk: mailsackref10.Header. -/
import Derived.Test.YtagpimahicgkmaaDoorR10S
import Derived.Test.YtagpimahicgkmaaDoorR1T
import Derived.Test.YtagpimahicgkmaaDoorMa
namespace Go.Proofs.YtagpimahicgkmaaDoor
open Go.RowKit

theorem all_step (l : List Wr) (k : Nat) : ((⟨(allTo l k).toArray⟩ : ByteArray) ++ dst (atW l k).at_.toNat) ++ (atW l k).data = ⟨(allTo l (k + 1)).toArray⟩ := by
  apply ByteArray.ext
  apply Array.toList_inj.1
  rw [ByteArray.data_append, Array.toList_append, ByteArray.data_append, Array.toList_append]
  show _ = (allTo l (k + 1)).toArray.toList
  rw [List.toList_toArray, allTo]
theorem all_size (l : List Wr) (h : ∀ x ∈ l, x.data.size ≤ 100) : ∀ k, k ≤ l.length → (⟨(allTo l k).toArray⟩ : ByteArray).size ≤ 164 * k
  | 0, _ => Nat.zero_le _
  | k + 1, hk => by
    rw [← all_step, ByteArray.size_append, ByteArray.size_append, dst_size]
    have := all_size l h k (by omega)
    have := h _ (atW_mem (k := k) (by omega))
    omega
theorem atW_lt {l : List Wr} {k : Nat} (h : k < l.length) : atW l k = l[k] := by unfold atW; rw [List.getD_eq_getElem?_getD, List.getElem?_eq_getElem h]; rfl
theorem hdr_pad (n : Nat) (x : ByteArray) (hx : (shaS x).size = 32) : padL ([74, UInt8.ofNat n] ++ (shaS x).data.toList) = hdr n x := by
  have hl : ([74, UInt8.ofNat n] ++ (shaS x).data.toList).length = 34 := by
    rw [List.length_append, Array.length_toList]
    show 2 + (shaS x).size = 34
    rw [hx]
  unfold padL hdr padTo
  rw [hl]
  apply ByteArray.ext
  apply Array.toList_inj.1
  rw [ByteArray.data_append, Array.toList_append, ByteArray.data_append, Array.toList_append]
  show (List.toArray _).toList = _
  rw [List.toList_toArray]
  rfl
set_option maxRecDepth 100000 in
set_option maxHeartbeats 2000000 in
theorem rheader_any (l : List Wr) (u : Value) (w : World) (hu : WrsAt [] w u l) (hat : ∀ x ∈ l, 0 ≤ x.at_ ∧ x.at_ < 4294967296) (hsz : ∀ x ∈ l, x.data.size ≤ 100) (hl : l.length ≤ 255) :
    Calls Tryd.prog 55 #[u] w fun e w' => e = .returned (.string (hdrOf l)) ∧ Kept w w' := by
  obtain ⟨WA, wc, rfl, hw1, hw2, hwr⟩ := hu
  unfold maxLen at hw2
  have HWR := Lib.hid hwr
  have HAT := Lib.hid hat
  have HSZ : Hid ((⟨(allTo l l.length).toArray⟩ : ByteArray).size ≤ 1000000) := by
    have := all_size l hsz l.length (Nat.le_refl _)
    show _ ≤ _; omega
  have HSD := Lib.hid hsz
  have HSB : Hid (∀ k, k ≤ l.length → (⟨(allTo l k).toArray⟩ : ByteArray).size ≤ 1000000) := fun k hk => by
    have := all_size l hsz k hk; omega
  have HHO : Hid (hdrOf l = hdr l.length ⟨(allTo l l.length).toArray⟩) := rfl
  have HS0 : Hid ((⟨(allTo l 0).toArray⟩ : ByteArray) = ⟨#[]⟩) := rfl
  have HSS : Hid (∀ k (h : k < l.length), ((⟨(allTo l k).toArray⟩ : ByteArray) ++ dst l[k].at_.toNat) ++ l[k].data = ⟨(allTo l (k + 1)).toArray⟩) := fun k h => by
    have := all_step l k
    rwa [atW_lt h] at this
  obtain ⟨SA, hSA⟩ : ∃ f : Nat → ByteArray, f = fun k => (⟨(allTo l k).toArray⟩ : ByteArray) := ⟨_, rfl⟩
  have e0 : ∀ k, (⟨(allTo l k).toArray⟩ : ByteArray) = SA k := fun k => by rw [hSA]
  rw [e0] at HSZ HHO HS0
  simp only [e0] at HSS HSB
  clear hwr hat hsz e0 hSA
  go_enter Tryd.func55, Tryd.ntmps55
  go_wp2_with fail
  go_loopw [3, 4] (fun tv iv wq => ∃ (k : Nat), k ≤ l.length ∧ iv = .int .i64 k ∧ tv = .string (SA k) ∧ Kept w wq) (fun _ iv _ => l.length - (intOf iv).toNat)
  case atStart => exact ⟨0, Nat.zero_le _, rfl, by rw [HS0.out], Kept.refl _⟩
  case round =>
    obtain ⟨k, hk, rfl, rfl, K⟩ := hrel
    by_cases hlt : k < l.length
    · skip
      have HST := Lib.hid (HSS.out k hlt)
      have hrg := HAT.out l[k] (List.getElem_mem hlt)
      have hmem := List.getElem_mem hlt
      obtain ⟨b, o, rfl, hb, _, hcs⟩ := HWR.out (by rw [wrs_length]; omega)
      have HC1 := Lib.hid (hcs _ _ (wrs_at hlt).1)
      have HC2 := Lib.hid (hcs _ _ (wrs_at hlt).2)
      clear hcs
      generalize l[k] = x at *
      obtain ⟨xa, xd⟩ := x
      dsimp only at hrg HC1 HC2 HST
      obtain ⟨xn, rfl⟩ := Int.eq_ofNat_of_zero_le hrg.1
      rw [Int.toNat_natCast] at HST
      have hxn : xn < 4294967296 := by omega
      have hd64 : (dst xn).size = 64 := dst_size xn
      have hsk := HSB.out k hk
      have hxd : xd.size ≤ 100 := HSD.out ⟨(xn : Int), xd⟩ hmem
      have hz1 : (9223372036854775807 < (SA k).size + (dst xn).size) = False := eq_false (by omega)
      have hz2 : (9223372036854775807 < (SA k).size + (dst xn).size + xd.size) = False := eq_false (by omega)
      clear hd64 hsk hxd hmem
      have i0 : (0 : Int) ≤ (k : Int) := by omega
      have i1 : (k : Int) < (l.length : Int) := by omega
      clear hrg
      go_upto_region 5 with fail
      have C1 : ∀ W', Kept w W' → W'.cell? ⟨b, o + k * 2, none⟩ = some (.int .i64 (xn : Int)) := fun W' hk => (hk.cell (p := ⟨b, o + k * 2, none⟩) hb).trans HC1.out
      have C2 : ∀ W', Kept w W' → W'.cell? ⟨b, o + k * 2 + 1, none⟩ = some (.string xd) := fun W' hk => (hk.cell (p := ⟨b, o + k * 2 + 1, none⟩) hb).trans HC2.out
      refine wp_region_Z (S := fun W' => Kept w W') (Z := []) (by kernel_rfl) (K.drew) (fun hHeld => ?_)
      have kr := K.drew
      clear K
      generalize wr.drew = w1 at *
      refine wpAnyZ_take (i := 0) (oi := { dst := some 11, op := Op.move (Operand.tmp 3), type := 9, pos := "ref.go:35", after := #[], guard := none }) (v := ?_) rfl (by kernel_rfl) (fun _ _ _ h => h) (Or.inl ⟨by rfl, ?_⟩) (by assumption) ?_
      rotate_left
      · (intro wz hSw; (try dsimp only at hSw); go_simp; (try with_reducible rfl))
      (try simp only [Act.put, List.setIfInBounds_toArray, List.set_cons_zero, List.set_cons_succ])
      refine wpAnyZ_take (i := 1) (oi := { dst := some 12, op := Op.move (Operand.tmp 0), type := 27, pos := "ref.go:35", after := #[], guard := none }) (v := ?_) rfl (by kernel_rfl) (fun _ _ _ h => h) (Or.inl ⟨by rfl, ?_⟩) (by assumption) ?_
      rotate_left
      · (intro wz hSw; (try dsimp only at hSw); go_simp; (try with_reducible rfl))
      (try simp only [Act.put, List.setIfInBounds_toArray, List.set_cons_zero, List.set_cons_succ])
      refine wpAnyZ_take (i := 2) (oi := { dst := some 13, op := Op.move (Operand.tmp 4), type := 3, pos := "ref.go:35", after := #[], guard := none }) (v := ?_) rfl (by kernel_rfl) (fun _ _ _ h => h) (Or.inl ⟨by rfl, ?_⟩) (by assumption) ?_
      rotate_left
      · (intro wz hSw; (try dsimp only at hSw); go_simp; (try with_reducible rfl))
      (try simp only [Act.put, List.setIfInBounds_toArray, List.set_cons_zero, List.set_cons_succ])
      refine wpAnyZ_take (i := 3) (oi := { dst := some 14, op := Op.indexAddr 27 (Operand.tmp 12) (Operand.tmp 13), type := 0, pos := "ref.go:35", after := #[{ on := 1, ground := Ground.data }, { on := 2, ground := Ground.data }], guard := none }) (v := ?_) rfl (by kernel_rfl) (fun _ _ _ h => h) (Or.inl ⟨by rfl, ?_⟩) (by assumption) ?_
      rotate_left
      · (intro wz hSw; (try dsimp only at hSw); go_simp; (try with_reducible rfl))
      (try simp only [Act.put, List.setIfInBounds_toArray, List.set_cons_zero, List.set_cons_succ])
      refine wpAnyZ_take (i := 4) (oi := { dst := some 15, op := Op.fieldAddr 82 (Operand.tmp 14) 0, type := 0, pos := "ref.go:35", after := #[{ on := 3, ground := Ground.data }], guard := none }) (v := ?_) rfl (by kernel_rfl) (fun _ _ _ h => h) (Or.inl ⟨by rfl, ?_⟩) (by assumption) ?_
      rotate_left
      · (intro wz hSw; (try dsimp only at hSw); go_simp; (try with_reducible rfl))
      (try simp only [Act.put, List.setIfInBounds_toArray, List.set_cons_zero, List.set_cons_succ])
      refine wpAnyZ_take (i := 5) (oi := { dst := some 16, op := Op.load 3 (Operand.tmp 15), type := 3, pos := "ref.go:35", after := #[{ on := 4, ground := Ground.data }], guard := none }) (v := ?_) rfl (by kernel_rfl) (fun _ _ _ h => h) (Or.inl ⟨by rfl, ?_⟩) (by assumption) ?_
      rotate_left
      · (intro wz hSw; (try dsimp only at hSw); go_simp; (try with_reducible rfl))
      (try simp only [Act.put, List.setIfInBounds_toArray, List.set_cons_zero, List.set_cons_succ])
      refine wpAnyZ_take (i := 8) (oi := { dst := some 19, op := Op.move (Operand.tmp 0), type := 27, pos := "ref.go:35", after := #[], guard := none }) (v := ?_) rfl (by kernel_rfl) (fun _ _ _ h => h) (Or.inl ⟨by rfl, ?_⟩) (by assumption) ?_
      rotate_left
      · (intro wz hSw; (try dsimp only at hSw); go_simp; (try with_reducible rfl))
      (try simp only [Act.put, List.setIfInBounds_toArray, List.set_cons_zero, List.set_cons_succ])
      refine wpAnyZ_take (i := 9) (oi := { dst := some 20, op := Op.move (Operand.tmp 4), type := 3, pos := "ref.go:35", after := #[], guard := none }) (v := ?_) rfl (by kernel_rfl) (fun _ _ _ h => h) (Or.inl ⟨by rfl, ?_⟩) (by assumption) ?_
      rotate_left
      · (intro wz hSw; (try dsimp only at hSw); go_simp; (try with_reducible rfl))
      (try simp only [Act.put, List.setIfInBounds_toArray, List.set_cons_zero, List.set_cons_succ])
      refine wpAnyZ_take (i := 10) (oi := { dst := some 21, op := Op.indexAddr 27 (Operand.tmp 19) (Operand.tmp 20), type := 0, pos := "ref.go:35", after := #[{ on := 8, ground := Ground.data }, { on := 9, ground := Ground.data }], guard := none }) (v := ?_) rfl (by kernel_rfl) (fun _ _ _ h => h) (Or.inl ⟨by rfl, ?_⟩) (by assumption) ?_
      rotate_left
      · (intro wz hSw; (try dsimp only at hSw); go_simp; (try with_reducible rfl))
      (try simp only [Act.put, List.setIfInBounds_toArray, List.set_cons_zero, List.set_cons_succ])
      refine wpAnyZ_take (i := 11) (oi := { dst := some 22, op := Op.fieldAddr 82 (Operand.tmp 21) 1, type := 0, pos := "ref.go:35", after := #[{ on := 10, ground := Ground.data }], guard := none }) (v := ?_) rfl (by kernel_rfl) (fun _ _ _ h => h) (Or.inl ⟨by rfl, ?_⟩) (by assumption) ?_
      rotate_left
      · (intro wz hSw; (try dsimp only at hSw); go_simp; (try with_reducible rfl))
      (try simp only [Act.put, List.setIfInBounds_toArray, List.set_cons_zero, List.set_cons_succ])
      refine wpAnyZ_take (i := 12) (oi := { dst := some 23, op := Op.load 9 (Operand.tmp 22), type := 9, pos := "ref.go:35", after := #[{ on := 11, ground := Ground.data }], guard := none }) (v := ?_) rfl (by kernel_rfl) (fun _ _ _ h => h) (Or.inl ⟨by rfl, ?_⟩) (by assumption) ?_
      rotate_left
      · (intro wz hSw; (try dsimp only at hSw); go_simp; (try with_reducible rfl))
      (try simp only [Act.put, List.setIfInBounds_toArray, List.set_cons_zero, List.set_cons_succ])
      refine wpAnyZ_ready (rs := [6]) (by kernel_rfl) (by simp) ?_
      refine AllReadyZ.cons (o := { dst := some 17, op := Op.call { callee := Callee.value (Operand.func 54), args := #[Operand.tmp 16], argTypes := #[3] }, type := 9, pos := "ref.go:35", after := #[{ on := 5, ground := Ground.data }], guard := none }) rfl (fun KK hKK => ?_) AllReadyZ.nil
      go_simp
      refine (rwhere_any xn hxn w1).mono ?_
      rintro e w2 ⟨rfl, hk⟩
      clear hHeld
      replace kr := kr.trans hk
      clear hk
      go_simp
      refine hKK.out _ _ ?_ (fun hHeld => ?_)
      · exact kr
      clear hKK KK
      (try simp only [Act.put, List.setIfInBounds_toArray, List.set_cons_zero, List.set_cons_succ])
      refine wpAnyZ_take (i := 7) (oi := { dst := some 18, op := Op.binOp BinOp.add 9 (Operand.tmp 11) (Operand.tmp 17) 9, type := 9, pos := "ref.go:35", after := #[{ on := 0, ground := Ground.data }, { on := 6, ground := Ground.data }], guard := none }) (v := ?_) rfl (by kernel_rfl) (fun _ _ _ h => h) (Or.inl ⟨by rfl, ?_⟩) (by assumption) ?_
      rotate_left
      · (intro wz hSw; (try dsimp only at hSw); go_simp; (try with_reducible rfl))
      (try simp only [Act.put, List.setIfInBounds_toArray, List.set_cons_zero, List.set_cons_succ])
      refine wpAnyZ_take (i := 13) (oi := { dst := some 24, op := Op.binOp BinOp.add 9 (Operand.tmp 18) (Operand.tmp 23) 9, type := 9, pos := "ref.go:35", after := #[{ on := 7, ground := Ground.data }, { on := 12, ground := Ground.data }], guard := none }) (v := ?_) rfl (by kernel_rfl) (fun _ _ _ h => h) (Or.inl ⟨by rfl, ?_⟩) (by assumption) ?_
      rotate_left
      · (intro wz hSw; (try dsimp only at hSw); go_simp; (try with_reducible rfl))
      (try simp only [Act.put, List.setIfInBounds_toArray, List.set_cons_zero, List.set_cons_succ])
      refine wpAnyZ_take (i := 14) (oi := { dst := some 3, op := Op.assign (Operand.tmp 24), type := 9, pos := "ref.go:35", after := #[{ on := 13, ground := Ground.data }, { on := 6, ground := Ground.chain }, { on := 0, ground := Ground.phase }, { on := 1, ground := Ground.phase }, { on := 2, ground := Ground.phase }, { on := 3, ground := Ground.phase }, { on := 4, ground := Ground.phase }, { on := 5, ground := Ground.phase }, { on := 6, ground := Ground.phase }, { on := 7, ground := Ground.phase }, { on := 8, ground := Ground.phase }, { on := 9, ground := Ground.phase }, { on := 10, ground := Ground.phase }, { on := 11, ground := Ground.phase }, { on := 12, ground := Ground.phase }, { on := 13, ground := Ground.phase }], guard := none }) (v := ?_) rfl (by kernel_rfl) (fun _ _ _ h => h) (Or.inl ⟨by rfl, ?_⟩) (by assumption) ?_
      rotate_left
      · (intro wz hSw; (try dsimp only at hSw); go_simp; (try with_reducible rfl))
      (try simp only [Act.put, List.setIfInBounds_toArray, List.set_cons_zero, List.set_cons_succ])
      refine wpAnyZ_done (by kernel_rfl) ?_ _
      clear C1 C2 hHeld
      have K := kr
      clear kr
      rw [HST.out]
      go_wp2
      go_roundw
      case rel => exact ⟨k + 1, by omega, by go_num, rfl, K⟩
      case measure => simp [intOf]; omega
    · obtain rfl : k = l.length := by omega
      have h1 : IntKind.u8.wrap (l.length : Int) = ((UInt8.ofNat l.length).toNat : Int) := by rw [UInt8.toNat_ofNat']; show (l.length : Int) % 256 = _; omega
      have h1' : (l.length : Int) % 256 = ((UInt8.ofNat l.length).toNat : Int) := by rw [UInt8.toNat_ofNat']; omega
      have hz32 : (shaS (SA l.length)).size = 32 := shaS_size _
      have HHP := Lib.hid (hdr_pad l.length (SA l.length) hz32)
      have HHD : Hid (hdrOf l = hdr l.length (SA l.length)) := HHO
      have hsz := HSZ.out
      generalize hxx : UInt8.ofNat l.length = xx at *
      have hcb := fun W' : World => run_bytes_of_string (P := Tryd.prog) W' 9 85 5 (shaS (SA l.length)) Tryd.underlying9 Tryd.underlying85 Tryd.underlying5
      go_wp2_with fail
      have OX := Lib.hid (Own.new wr 5 ([74, xx].flatMap bc1))
      have HOX : Hid ((wr.alloc (.cells #[.int .u8 74, .int .u8 (xx.toNat : Int)] 5)).ownsRow w.heap.size 5 1 (.slice (some ⟨wr.heap.size, 0, none⟩) 2 2) ([74, xx] : List UInt8).length (([74, xx] : List UInt8).flatMap bc1)) := ⟨by rfl, .inr ⟨wr.heap.size, 2, _, rfl, K.size, OX.out, by simp, by unfold maxLen; omega, rfl, rfl⟩⟩
      replace K := K.alloc (.cells #[.int .u8 74, .int .u8 (xx.toNat : Int)] 5)
      generalize (wr.alloc (.cells #[.int .u8 74, .int .u8 (xx.toNat : Int)] 5)) = w1 at *
      generalize wr.heap.size = gx at *
      clear OX h1 h1' hxx
      refine (rsum_any (SA l.length) w1 hsz).mono ?_
      rintro e w2 ⟨rfl, hk⟩
      replace HOX := Lib.hid (ownsRow_kept HOX.out hk)
      replace K := K.trans hk
      clear hk hsz
      have HGB := Lib.hid (RowG.conv w2 (shaS (SA l.length)) (by rw [hz32]; unfold maxLen; omega))
      generalize hsx : shaS (SA l.length) = sx at *
      have HX32 : Hid (sx.data.toList.length = 32) := by show _ = _; rw [Array.length_toList]; exact hz32
      clear hz32
      have hcb2 := hcb w2
      clear hcb
      go_wp2_with (at_builtin; go_must (
        refine Tryd.elU.wpList_app rfl (.tmp 28) (.tmp 31) rfl w.heap.size (.slice (some ⟨gx, 0, none⟩) 2 2) [74, xx] rfl (ownsRow_kept HOX.out ((Kept.refl w2).drew.alloc _)) [] (some ⟨w2.heap.size, 0, none⟩) _ sx.data.toList rfl ?_ (bc_one _) (by rw [HX32.out]; unfold maxLen; simp only [List.length_cons, List.length_nil]; omega) (by rw [HX32.out]; simp only [List.length_cons, List.length_nil]; omega) (by have := K.size; simp; omega) ?_
        · intro hpos
          have hcl := HGB.out.cells
          exact ⟨w2.heap.size, 0, rfl, by simp, by simp, fun j u hu => by rw [Nat.zero_add]; exact hcl j u (by rw [bc_flat] at hu; exact hu)⟩
        intro v9 w9 hap hgr hat
        have K9 := (K.drew.alloc _).grown hgr (fun k e => (HOX.out.lt k e).1)
        obtain ⟨A9, c9, rfl, _, _, _⟩ := own_form (V := []) hap (by simp)
        have HO9 := Lib.hid hap
        clear hap hgr hat hcb2 HGB))
      go_wp2_with fail
      refine (rsector_any w ([74, xx] ++ sx.data.toList) _ _ K9 HO9.out (by rw [List.length_append, HX32.out]; simp only [List.length_cons, List.length_nil]; omega)).mono ?_
      rintro e w10 ⟨rfl, K10⟩
      go_wp2
      go_ret
      have hh9 := HHP.out
      simp only [List.cons_append, List.nil_append] at hh9
      exact ⟨by rw [hh9, HHD.out]; rfl, K10⟩
end Go.Proofs.YtagpimahicgkmaaDoor
