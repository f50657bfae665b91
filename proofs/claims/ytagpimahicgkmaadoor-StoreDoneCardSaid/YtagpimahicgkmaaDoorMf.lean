/- Plain: what a slot of a store says, and how it is written. Walks: store.blocks, capacity, sectors, pad, encode. -/
import Derived.Test.YtagpimahicgkmaaDoorMc
import Derived.Test.YtagpimahicgkmaaDoorShelf
/-! Plain: what a slot of a store says, and how it is written. -/
namespace Go.Proofs.YtagpimahicgkmaaDoor
open Go.RowKit

structure Slot where
  used : Bool
  cls : Nat
  blk : Nat
  size : Nat
  name : ByteArray
def slot0 : Slot := ⟨false, 0, 0, 0, ⟨#[]⟩⟩
def slotC (t : Slot) : List Value := [.bool t.used, .int .i64 (t.cls : Int), .int .i64 (t.blk : Int), .int .i64 (t.size : Int), .string t.name]
def padB (s : ByteArray) (n : Nat) : ByteArray := s ++ zerosB (n - s.size)
def headB (t : Slot) : ByteArray := ⟨#[1, UInt8.ofNat t.cls, UInt8.ofNat t.blk, UInt8.ofNat t.size, UInt8.ofNat (t.size / 256), UInt8.ofNat t.name.size]⟩
def encS (t : Slot) : ByteArray := if t.used then padB (headB t ++ t.name) 64 else padB ⟨#[]⟩ 64
def blocksN (c : Nat) : Nat := if c = 0 then 24 else 12
def capN (c : Nat) : Nat := if c = 0 then 256 else 1024
def decN (s : ByteArray) : Nat := (byteAt s 5).toNat
def decRaw (s : ByteArray) : Slot := ⟨true, (byteAt s 1).toNat, (byteAt s 2).toNat, (byteAt s 3).toNat + 256 * (byteAt s 4).toNat, s.extract 6 (6 + decN s)⟩
def decBad (s : ByteArray) : Bool := !((byteAt s 0).toNat == 1) || decide (1 < (byteAt s 1).toNat) || decide (blocksN (byteAt s 1).toNat ≤ (byteAt s 2).toNat) || decide (capN (byteAt s 1).toNat < (byteAt s 3).toNat + 256 * (byteAt s 4).toNat) || decide (decN s < 1) || decide (24 < decN s)
def decS (s : ByteArray) : Slot := if decBad s then slot0 else if s.toList == (encS (decRaw s)).toList then decRaw s else slot0
def firstN (c b : Nat) : Nat := if c = 0 then 93 + 4 * b else 189 + 16 * b
def countN (c : Nat) : Nat := if c = 0 then 4 else 16
theorem padB_size (s : ByteArray) (n : Nat) : (padB s n).size = max s.size n := by
  unfold padB; rw [ByteArray.size_append, zerosB_size]; omega
theorem headB_size (t : Slot) : (headB t).size = 6 := rfl
theorem encS_size {t : Slot} (h : t.name.size ≤ 58) : (encS t).size = 64 := by
  unfold encS
  split
  · rw [padB_size, ByteArray.size_append, headB_size]; omega
  · rw [padB_size]; rfl
theorem wrap_u8 (n : Nat) : IntKind.u8.wrap (n : Int) = ((UInt8.ofNat n).toNat : Int) := by rw [UInt8.toNat_ofNat']; show (n : Int) % 256 = _; omega
theorem blocksN_le (c : Nat) : blocksN c ≤ 24 := by unfold blocksN; split <;> omega
theorem capN_le (c : Nat) : capN c ≤ 1024 := by unfold capN; split <;> omega
theorem countN_le (c : Nat) : countN c ≤ 16 := by unfold countN; split <;> omega
end Go.Proofs.YtagpimahicgkmaaDoor

/-! Walks: store.blocks, capacity, sectors, pad, encode. -/
namespace Go.Proofs.YtagpimahicgkmaaDoor
open Go.RowKit

theorem blocks_any (c : Nat) (w : World) : Calls Tryd.prog 72 #[.int .i64 (c : Int)] w fun e w' => e = .returned (.int .i64 (blocksN c : Nat)) ∧ w = w' := by
  by_cases h : c = 0
  · subst h
    go_enter Tryd.func72, Tryd.ntmps72
    go_wp2
    go_ret
    exact ⟨rfl, rfl⟩
  · have h' := beq_f (a := (c : Int)) (b := 0) (by omega)
    have HE : Hid (blocksN c = 12) := by show _ = _; unfold blocksN; rw [if_neg h]
    go_enter Tryd.func72, Tryd.ntmps72
    go_wp2
    go_ret
    exact ⟨by rw [HE.out]; rfl, rfl⟩
theorem cap_any (c : Nat) (w : World) : Calls Tryd.prog 92 #[.int .i64 (c : Int)] w fun e w' => e = .returned (.int .i64 (capN c : Nat)) ∧ w = w' := by
  by_cases h : c = 0
  · subst h
    go_enter Tryd.func92, Tryd.ntmps92
    go_wp2
    go_ret
    exact ⟨rfl, rfl⟩
  · have h' := beq_f (a := (c : Int)) (b := 0) (by omega)
    have HE : Hid (capN c = 1024) := by show _ = _; unfold capN; rw [if_neg h]
    go_enter Tryd.func92, Tryd.ntmps92
    go_wp2
    go_ret
    exact ⟨by rw [HE.out]; rfl, rfl⟩
theorem ret2_ii {a b a' b' : Int} (h : a = a') (h' : b = b') : Ending.returned (.tuple #[.int .i64 a, .int .i64 b]) = .returned (.tuple #[.int .i64 a', .int .i64 b']) := by rw [h, h']
theorem sectors_any (c b : Nat) (w : World) (hb : b ≤ 1000) : Calls Tryd.prog 76 #[.int .i64 (c : Int), .int .i64 (b : Int)] w fun e w' => e = .returned (.tuple #[.int .i64 (firstN c b : Nat), .int .i64 (countN c : Nat)]) ∧ w = w' := by
  by_cases h : c = 0
  · subst h
    have HE : Hid (firstN 0 b = 93 + 4 * b) := rfl
    go_enter Tryd.func76, Tryd.ntmps76
    go_wp2
    go_ret2
    exact ⟨ret2_ii (by rw [HE.out]; omega) rfl, rfl⟩
  · have h' := beq_f (a := (c : Int)) (b := 0) (by omega)
    have HE : Hid (firstN c b = 189 + 16 * b ∧ countN c = 16) := by show _ ∧ _; unfold firstN countN; rw [if_neg h, if_neg h]; exact ⟨rfl, rfl⟩
    go_enter Tryd.func76, Tryd.ntmps76
    go_wp2
    go_ret2
    exact ⟨ret2_ii (by rw [HE.out.1]; omega) (by rw [HE.out.2]; rfl), rfl⟩
set_option maxHeartbeats 1000000 in
theorem pad_any (s : ByteArray) (n : Nat) (w : World) (hn : n ≤ 100000) (hs : s.size ≤ 1000000000) : Calls Tryd.prog 120 #[.string s, .int .i64 (n : Int)] w fun e w' => e = .returned (.string (padB s n)) ∧ Kept w w' := by
  have hr := Tryd.strings_Repeat ⟨#[0]⟩ (n - s.size) w (by omega) (by show 1 * (n - s.size) ≤ _; omega)
  have hz : (⟨(Lib.repeatL (⟨#[0]⟩ : ByteArray).data.toList (n - s.size)).toArray⟩ : ByteArray) = zerosB (n - s.size) := by
    show (⟨(Lib.repeatL [(0 : UInt8)] (n - s.size)).toArray⟩ : ByteArray) = _
    rw [repeat_zero]; rfl
  rw [hz] at hr
  have HP : Hid (padB s n = s ++ zerosB (n - s.size)) := rfl
  have hzs : (zerosB (n - s.size)).size ≤ 100000 := by rw [zerosB_size]; omega
  have hm : max ((n : Int) - (s.size : Int)) 0 = ((n - s.size : Nat) : Int) := by omega
  clear hz
  generalize zerosB (n - s.size) = Z at *
  generalize n - s.size = k at *
  have HR := Lib.hid hr
  clear hr
  go_enter Tryd.func120, Tryd.ntmps120
  go_wp2_with fail
  refine HR.out.mono ?_
  rintro e w1 ⟨rfl, hk⟩
  go_wp2
  go_ret
  exact ⟨by rw [HP.out]; rfl, hk⟩
theorem conv_bytes (W : World) (b n : Nat) (bs : List UInt8) (hn : n = bs.length) (h : Own W b 5 (Lib.byteCells bs)) : (convert 85 9 (.slice (some ⟨b, 0, none⟩) n n)).run Tryd.prog W = .ok (.string ⟨bs.toArray⟩) W := by
  subst hn
  exact run_convert_bytes_back (P := Tryd.prog) W 85 9 5 ⟨b, 0, none⟩ bs.length bs Tryd.underlying85 Tryd.underlying5 Tryd.underlying9 (fun j hj => by
    rw [Addr.add_mid, Nat.zero_add, h.cell?, bc_at hj])
set_option maxRecDepth 100000 in
set_option maxHeartbeats 1000000 in
theorem enc_any (t : Slot) (w : World) (hsz : t.size ≤ 100000) (hns : t.name.size ≤ 100000) : Calls Tryd.prog 106 #[.agg (slotC t).toArray] w fun e w' => e = .returned (.string (encS t)) ∧ Kept w w' := by
  obtain ⟨u, cl, bl, sz, nm⟩ := t
  show Calls _ _ #[.agg #[.bool u, .int .i64 (cl : Int), .int .i64 (bl : Int), .int .i64 (sz : Int), .string nm]] w _
  simp only at hsz hns
  cases u with
  | false =>
    go_enter Tryd.func106, Tryd.ntmps106
    go_wp2_with fail
    have OT := Lib.hid (Own.newAt w w.heap.size 121 [.bool false, .int .i64 (cl : Int), .int .i64 (bl : Int), .int .i64 (sz : Int), .string nm] (by simp))
    have K := ((Kept.refl w).alloc (.cells #[.bool false, .int .i64 (cl : Int), .int .i64 (bl : Int), .int .i64 (sz : Int), .string nm] 121))
    generalize (w.alloc (.cells #[.bool false, .int .i64 (cl : Int), .int .i64 (bl : Int), .int .i64 (sz : Int), .string nm] 121)) = w1 at *
    have cT0 := OT.out.cell? 0
    have fT0 := OT.out.frozen 0
    have cT1 := OT.out.cell? 1
    have fT1 := OT.out.frozen 1
    have cT2 := OT.out.cell? 2
    have fT2 := OT.out.frozen 2
    have cT3 := OT.out.cell? 3
    have fT3 := OT.out.frozen 3
    have cT4 := OT.out.cell? 4
    have fT4 := OT.out.frozen 4
    simp only [List.getElem?_cons_zero, List.getElem?_cons_succ] at cT0 cT1 cT2 cT3 cT4
    refine (pad_any ⟨#[]⟩ 64 _ (by omega) (by decide)).mono ?_
    rintro e w2 ⟨rfl, hk⟩
    clear cT0 cT1 cT2 cT3 cT4 fT0 fT1 fT2 fT3 fT4
    replace OT := Lib.hid (OT.out.kept hk)
    replace K := K.trans hk
    clear hk
    go_wp2
    go_ret
    exact ⟨rfl, K⟩
  | true =>
    have hb : #[Value.int .u8 1, .int .u8 ((cl : Int) % 256), .int .u8 ((bl : Int) % 256), .int .u8 ((sz : Int) % 256), .int .u8 ((sz : Int) / 256 % 256), .int .u8 ((nm.size : Int) % 256)] = (Lib.byteCells [1, UInt8.ofNat cl, UInt8.ofNat bl, UInt8.ofNat sz, UInt8.ofNat (sz / 256), UInt8.ofNat nm.size]).toArray := by
      simp [Lib.byteCells, UInt8.toNat_ofNat']
    have hcv := conv_bytes ((w.alloc (.cells #[.bool true, .int .i64 (cl : Int), .int .i64 (bl : Int), .int .i64 (sz : Int), .string nm] 121)).alloc (.cells (Lib.byteCells [1, UInt8.ofNat cl, UInt8.ofNat bl, UInt8.ofNat sz, UInt8.ofNat (sz / 256), UInt8.ofNat nm.size]).toArray 5)) (w.heap.size + 1) 6 _ rfl (Own.new1 w _ _ _)
    rw [← hb] at hcv
    have HE : Hid (encS ⟨true, cl, bl, sz, nm⟩ = padB (⟨[1, UInt8.ofNat cl, UInt8.ofNat bl, UInt8.ofNat sz, UInt8.ofNat (sz / 256), UInt8.ofNat nm.size].toArray⟩ ++ nm) 64) := rfl
    have hhs : (⟨[1, UInt8.ofNat cl, UInt8.ofNat bl, UInt8.ofNat sz, UInt8.ofNat (sz / 256), UInt8.ofNat nm.size].toArray⟩ : ByteArray).size ≤ 6 := Nat.le_refl _
    clear hb
    generalize (⟨[1, UInt8.ofNat cl, UInt8.ofNat bl, UInt8.ofNat sz, UInt8.ofNat (sz / 256), UInt8.ofNat nm.size].toArray⟩ : ByteArray) = hd at *
    go_enter Tryd.func106, Tryd.ntmps106
    go_wp2_with fail
    refine (pad_any (hd ++ nm) 64 _ (by omega) (by rw [ByteArray.size_append]; omega)).mono ?_
    rintro e w1 ⟨rfl, hk⟩
    go_wp2
    go_ret
    exact ⟨by rw [HE.out]; rfl, (((Kept.refl w).alloc _).alloc _).trans hk⟩
end Go.Proofs.YtagpimahicgkmaaDoor
