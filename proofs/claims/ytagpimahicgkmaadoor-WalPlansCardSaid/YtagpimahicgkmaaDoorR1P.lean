/- Plain: the document's digest is the program's. -/
import Derived.Test.YtagpimahicgkmaaDoorMb
namespace Go.Proofs.YtagpimahicgkmaaDoor
open Go.RowKit

/-! The document's numbers. -/
theorem rref (x n : UInt32) : x >>> n ||| x <<< (32 - n) = rotr x n := UInt32.or_comm _ _
theorem not_sub (e : UInt32) : 4294967295 - e = ~~~e := by
  apply UInt32.eq_of_toBitVec_eq
  rw [UInt32.toBitVec_sub, UInt32.toBitVec_not]
  show BitVec.allOnes 32 - e.toBitVec = _
  exact BitVec.allOnes_sub_eq_not _
theorem choose_eq (e f g : UInt32) : e &&& f ||| ~~~e &&& g = chose e f g := by
  unfold chose
  apply UInt32.eq_of_toBitVec_eq
  simp only [UInt32.toBitVec_or, UInt32.toBitVec_and, UInt32.toBitVec_xor, UInt32.toBitVec_not]
  ext i hi
  simp only [BitVec.getElem_or, BitVec.getElem_and, BitVec.getElem_xor, BitVec.getElem_not]
  cases e.toBitVec[i] <;> cases f.toBitVec[i] <;> cases g.toBitVec[i] <;> rfl
theorem most_eq (a b c : UInt32) : (a &&& b ||| a &&& c) ||| b &&& c = majo a b c := by
  unfold majo
  apply UInt32.eq_of_toBitVec_eq
  simp only [UInt32.toBitVec_or, UInt32.toBitVec_and, UInt32.toBitVec_xor]
  ext i hi
  simp only [BitVec.getElem_or, BitVec.getElem_and, BitVec.getElem_xor]
  cases a.toBitVec[i] <;> cases b.toBitVec[i] <;> cases c.toBitVec[i] <;> rfl
theorem next_sum (a b c d : UInt32) : ((b + d) + c) + a = ((a + b) + c) + d := by ac_rfl
/-- The first k words. -/
def wordsTo (s : ByteArray) (k : Nat) : List UInt32 := (schTo s k).take k
theorem wordsTo_len (s : ByteArray) {k : Nat} (h : k ≤ 64) : (wordsTo s k).length = k := by unfold wordsTo; rw [List.length_take, schTo_len]; omega
theorem words_at (s : ByteArray) {k i : Nat} (h : i < k) : at32 (wordsTo s k) i = at32 (schTo s k) i := by
  unfold wordsTo at32
  rw [List.getD_eq_getElem?_getD, List.getD_eq_getElem?_getD, List.getElem?_take, if_pos h]
theorem words_succ (s : ByteArray) {k : Nat} (h : k < 64) : wordsTo s (k + 1) = wordsTo s k ++ [nextW s (wordsTo s k) k] := by
  have e : nextW s (wordsTo s k) k = nextW s (schTo s k) k := by
    unfold nextW
    split
    · rfl
    · rw [words_at s (by omega : k - 16 < k), words_at s (by omega : k - 15 < k), words_at s (by omega : k - 7 < k), words_at s (by omega : k - 2 < k)]
  rw [e]
  unfold wordsTo
  rw [schTo, List.take_succ_eq_append_getElem (by rw [List.length_set, schTo_len]; omega), List.getElem_set_self, List.take_set_of_le (Nat.le_refl _)]
theorem words_64 (s : ByteArray) : wordsTo s 64 = schTo s 64 := by unfold wordsTo; rw [List.take_of_length_le (by rw [schTo_len]; exact Nat.le_refl _)]
/-! The document's padding. -/
/-- The last i bytes of a count. -/
def cntTo (c : Nat) : Nat → List UInt8
  | 0 => []
  | i + 1 => byteOf c i :: cntTo c i
theorem cntTo_len (c : Nat) : ∀ i, (cntTo c i).length = i
  | 0 => rfl
  | i + 1 => by rw [cntTo, List.length_cons, cntTo_len]
theorem end_form {l : List UInt8} {c size : Nat} (h : l.length + 9 ≤ size) : ∀ i, i ≤ 8 → endTo l c size i = l ++ 128 :: (List.replicate (size - 1 - l.length - i) 0 ++ cntTo c i)
  | 0, _ => by
    rw [endTo, cntTo, List.append_nil, List.set_append_right _ _ (Nat.le_refl _), Nat.sub_self, show size - l.length = (size - 1 - l.length - 0) + 1 by omega, List.replicate_succ, List.set_cons_zero]
  | i + 1, hi => by
    rw [endTo, end_form h i (by omega), List.set_append_right _ _ (by omega), show size - 1 - i - l.length = (size - 1 - l.length - (i + 1)) + 1 by omega, List.set_cons_succ,
      show size - 1 - l.length - i = (size - 1 - l.length - (i + 1)) + 1 by omega, List.replicate_succ', List.append_assoc, List.set_append_right _ _ (by rw [List.length_replicate]; exact Nat.le_refl _), List.length_replicate, Nat.sub_self]
    rfl
/-- The document's zeros: up to 56 beyond 64s. -/
def zerosR (n : Nat) : Nat := (119 - n % 64) % 64
theorem zeros_mod (n : Nat) : (n + 1 + zerosR n) % 64 = 56 := by unfold zerosR; omega
theorem zeros_least {n z : Nat} (h : z < zerosR n) : (n + 1 + z) % 64 ≠ 56 := by unfold zerosR at h; omega
/-- The document's message. -/
def msgR (s : ByteArray) : List UInt8 := s.data.toList ++ 128 :: (List.replicate (zerosR s.size) 0 ++ cntTo (s.size * 8) 8)
theorem tail_form {r : ByteArray} {c : Nat} (h : r.size < 64) : (tailS r c).data.toList = r.data.toList ++ 128 :: (List.replicate (zerosR r.size) 0 ++ cntTo c 8) := by
  have hl : r.data.toList.length = r.size := by simp
  unfold tailS
  split
  · show (endTo r.data.toList c 128 8).toArray.toList = _
    rw [List.toList_toArray, end_form (by omega) 8 (Nat.le_refl _), hl, show 128 - 1 - r.size - 8 = zerosR r.size by unfold zerosR; omega]
  · show (endTo r.data.toList c 64 8).toArray.toList = _
    rw [List.toList_toArray, end_form (by omega) 8 (Nat.le_refl _), hl, show 64 - 1 - r.size - 8 = zerosR r.size by unfold zerosR; omega]
theorem ext_list2 (s : ByteArray) (a b : Nat) : (s.extract a b).data.toList = (s.data.toList.drop a).take (b - a) := by
  rw [ByteArray.data_extract, Array.toList_extract, List.extract_eq_take_drop]
theorem msg_form (s : ByteArray) : msgR s = s.data.toList.take (64 * (s.size / 64)) ++ (tailS (s.extract (64 * (s.size / 64)) s.size) (s.size * 8)).data.toList := by
  have hl : s.data.toList.length = s.size := by simp
  have hsz : (s.extract (64 * (s.size / 64)) s.size).size = s.size % 64 := by rw [ByteArray.size_extract]; omega
  have hd : (s.data.toList.drop (64 * (s.size / 64))).take (s.size - 64 * (s.size / 64)) = s.data.toList.drop (64 * (s.size / 64)) := List.take_of_length_le (by rw [List.length_drop]; omega)
  rw [tail_form (by rw [hsz]; omega), ext_list2, hd, ← List.append_assoc, List.take_append_drop, hsz]
  unfold msgR
  rw [show zerosR (s.size % 64) = zerosR s.size by unfold zerosR; omega]
theorem msg_len (s : ByteArray) : (msgR s).length = s.size + 9 + zerosR s.size := by
  unfold msgR
  simp [cntTo_len]; omega
theorem msg_mod (s : ByteArray) : (msgR s).length % 64 = 0 := by
  rw [msg_len]; have := zeros_mod s.size; omega
/-- Blocks of a list of bytes. -/
def blk (l : List UInt8) (k : Nat) : ByteArray := ⟨((l.drop (64 * k)).take 64).toArray⟩
theorem ext_blk (s : ByteArray) (k : Nat) : s.extract (64 * k) (64 * k + 64) = blk s.data.toList k := by
  apply ByteArray.ext
  apply Array.ext'
  rw [ext_list2]
  show _ = (List.toArray _).toList
  rw [List.toList_toArray, show 64 * k + 64 - 64 * k = 64 by omega]
def blocksL (l : List UInt8) (st : St) : Nat → St
  | 0 => st
  | k + 1 => blockSt (blocksL l st k) (blk l k)
theorem blocks_eq (s : ByteArray) (st : St) : ∀ k, blocksTo s st k = blocksL s.data.toList st k
  | 0 => rfl
  | k + 1 => by rw [blocksTo, blocksL, blocks_eq, ext_blk]
theorem blocksL_congr {l l' : List UInt8} (st : St) : ∀ k, l.take (64 * k) = l'.take (64 * k) → blocksL l st k = blocksL l' st k
  | 0, _ => rfl
  | k + 1, h => by
    have h1 : l.take (64 * k) = l'.take (64 * k) := by
      have := congrArg (List.take (64 * k)) h
      simpa [List.take_take, Nat.min_eq_left (by omega : 64 * k ≤ 64 * (k + 1))] using this
    have h2 : blk l k = blk l' k := by
      unfold blk
      have := congrArg (List.drop (64 * k)) h
      rw [List.drop_take, List.drop_take, show 64 * (k + 1) - 64 * k = 64 by omega] at this
      rw [this]
    rw [blocksL, blocksL, blocksL_congr st k h1, h2]
theorem blocksL_app {l l' : List UInt8} {q : Nat} (h : l.length = 64 * q) (st : St) : ∀ k, blocksL (l ++ l') st (q + k) = blocksL l' (blocksL l st q) k
  | 0 => blocksL_congr st q (by rw [List.take_append_of_le_length (by omega)])
  | k + 1 => by
    rw [← Nat.add_assoc, blocksL, blocksL, blocksL_app h st k]
    congr 1
    unfold blk
    rw [List.drop_append, List.drop_of_length_le (by omega), List.nil_append, h, show 64 * (q + k) - 64 * q = 64 * k by omega]
/-- The document's blocks are the program's. -/
theorem sum_blocks (s : ByteArray) : blocksL (msgR s) st0 ((msgR s).length / 64) = sumSt s := by
  have hl : s.data.toList.length = s.size := by simp
  have hml := msg_form s
  unfold sumSt
  generalize ht : tailS (s.extract (64 * (s.size / 64)) s.size) (s.size * 8) = T at *
  have hTl : T.data.toList.length = T.size := by simp
  have hmm := msg_mod s
  have hlen : (msgR s).length = 64 * (s.size / 64) + T.size := by rw [hml, List.length_append, List.length_take, hTl]; omega
  rw [hlen, show (64 * (s.size / 64) + T.size) / 64 = s.size / 64 + T.size / 64 by omega, hml, blocksL_app (by rw [List.length_take]; omega), blocks_eq, blocks_eq]
  congr 1
  exact blocksL_congr st0 _ (by rw [List.take_take, Nat.min_self])
end Go.Proofs.YtagpimahicgkmaaDoor
