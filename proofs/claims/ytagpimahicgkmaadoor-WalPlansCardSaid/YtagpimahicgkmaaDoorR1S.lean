/- Walk: mailsackref01.Rounds, State, Sum. -/
import Derived.Test.YtagpimahicgkmaaDoorR1B
import Derived.ArgAppend
import Derived.Laws.IdiomStrings
namespace Go.Proofs.YtagpimahicgkmaaDoor
open Go.RowKit

/-! A row of bytes that may bear the mark of a conversion: none of its cells is frozen. -/
def RowG (w : World) (base : Nat) (v : Value) (L : List UInt8) : Prop :=
  ∃ g cap, v = .slice (some ⟨g, 0, none⟩) L.length cap ∧ base ≤ g ∧ g < w.heap.size ∧ L.length ≤ cap ∧ cap ≤ maxLen ∧ (∀ j u, (Lib.byteCells L)[j]? = some u → w.cell? ⟨g, j, none⟩ = some u) ∧ (∀ j, j < cap → (w.cell? ⟨g, j, none⟩).isSome = true ∧ w.frozen? ⟨g, j, none⟩ = false)
theorem RowG.kept {w w' : World} {base : Nat} {v : Value} {L : List UInt8} (h : RowG w base v L) (k : Kept w w') : RowG w' base v L := by
  obtain ⟨g, cap, hv, hb, hg, h1, h2, h3, h4⟩ := h
  have e := k.block g hg
  exact ⟨g, cap, hv, hb, Nat.lt_of_lt_of_le hg k.size, h1, h2, fun j u hu => (World.cell?_of_block (a := ⟨g, j, none⟩) e).trans (h3 j u hu), fun j hj => ⟨by rw [World.cell?_of_block (a := ⟨g, j, none⟩) e]; exact (h4 j hj).1, (World.frozen?_of_block (a := ⟨g, j, none⟩) e).trans (h4 j hj).2⟩⟩
theorem RowG.of_own {w : World} {base : Nat} {v : Value} {L : List UInt8} (h : w.ownsRow base 5 1 v L.length (L.flatMap bc1)) (hL : 0 < L.length) : RowG w base v L := by
  rcases h.2 with ⟨_, h0⟩ | ⟨g, cap, cur, hv, hb, hh, h1, h2, h3, h4⟩
  · omega
  · have hlt : g < w.heap.size := by
      rcases Nat.lt_or_ge g w.heap.size with h' | h'
      · exact h'
      · rw [Array.getElem?_eq_none h'] at hh; cases hh
    refine ⟨g, cap, hv, hb, hlt, h1, h2, fun j u hu => ?_, fun j hj => ?_⟩
    · rw [cell_of_row w g j cur 5 (0, 0) hh]
      rw [← bc_flat, ← h4, List.getElem?_take] at hu
      split at hu
      · simpa using hu
      · cases hu
    · rw [cell_of_row w g j cur 5 (0, 0) hh]
      refine ⟨by rw [Array.getElem?_eq_getElem (by omega)]; rfl, ?_⟩
      simp [World.frozen?, hh]
/-- '[]byte(s)': what is laid. -/
theorem RowG.conv (w : World) (s : ByteArray) (hs : s.size ≤ maxLen) : RowG (w.drew.alloc (.cells (bytesRow s (grownCap w s.size 0 5)) 5 ((bytesRow s (grownCap w s.size 0 5)).size, (bytesRow s (grownCap w s.size 0 5)).size + 1))) w.heap.size (.slice (some ⟨w.heap.size, 0, none⟩) s.size (grownCap w s.size 0 5)) s.data.toList := by
  have hge := grownCap_ge w s.size 0 5
  have hle := grownCap_le_maxLen w s.size 0 5 hs
  generalize grownCap w s.size 0 5 = cap at *
  have hsz : (bytesRow s cap).size = cap := by
    unfold bytesRow
    have : s.data.size = s.size := rfl
    simp; omega
  have hl : s.data.toList.length = s.size := by simp
  have hh : (w.drew.alloc (.cells (bytesRow s cap) 5 ((bytesRow s cap).size, (bytesRow s cap).size + 1))).heap[w.heap.size]? = some (.cells (bytesRow s cap) 5 ((bytesRow s cap).size, (bytesRow s cap).size + 1)) := heap_alloc_new w.drew _
  refine ⟨w.heap.size, cap, by rw [hl], Nat.le_refl _, by simp, by omega, hle, fun j u hu => ?_, fun j hj => ?_⟩
  · rw [cell_of_row _ w.heap.size j _ _ _ hh]
    have hj := (List.getElem?_eq_some_iff.1 hu).1
    rw [Lib.byteCells, List.length_map, hl] at hj
    unfold bytesRow
    rw [Array.getElem?_append_left (by simpa using hj)]
    rw [← hu]
    simp [Lib.byteCells]
  · rw [cell_of_row _ w.heap.size j _ _ _ hh]
    refine ⟨by rw [Array.getElem?_eq_getElem (by omega)]; rfl, ?_⟩
    simp only [World.frozen?, hh]
    simp; omega
/-- One byte more. -/
theorem wpList_appG {w0 w : World} {ops : Array Oper} {rest : List Oper} {o : Oper} {a : Act} {Q : Exit → Act → World → Prop} (hgd : o.guard = none) (s x : Operand)
    (ho : o.op = .call { callee := .builtin .append, args := #[s, x], argTypes := #[85, 85] })
    (v : Value) (L : List UInt8) (K0 : Kept w0 w) (hs : a.eval s = v) (hG : RowG w w0.heap.size v L) (b : Nat) (y : UInt8) (hx : a.eval x = .slice (some ⟨b, 0, none⟩) 1 1) (hy : Own w b 5 ([y].flatMap bc1)) (hL : L.length + 1 ≤ 100000000)
    (h : ∀ v' w', RowG w' w0.heap.size v' (L ++ [y]) → Kept w0 w' → wpList Tryd.prog ops Q rest (a.put o.dst v') w') : wpList Tryd.prog ops Q (o :: rest) a w := by
  obtain ⟨g, cap, rfl, hb, hg, h1, h2, h3, h4⟩ := hG
  obtain ⟨i, z, hi, hz, hsz, hbt, hzs⟩ := Tryd.elU.info
  have hyc : ∀ j u, ([y].flatMap bc1)[j]? = some u → w.cell? ((⟨b, 0, none⟩ : Addr).add j) = some u := fun j u hu => by rw [Addr.add_mid, Nat.zero_add, hy.cell?]; exact hu
  have hlen : (Lib.byteCells L).length = L.length * 1 := by simp [Lib.byteCells]
  refine wpList_append_arg w hgd s x 85 ho 5 i z 1 1 Tryd.elU.und hi hz hsz hbt hzs (by decide) g 0 L.length cap (Lib.byteCells L) hs hlen (fun j u hu => by rw [Nat.zero_add]; exact h3 j u hu) ⟨b, 0, none⟩ 1 1 ([y].flatMap bc1) hx rfl hyc (bc_one _) (fun hr j hj => ?_) (by unfold maxLen; omega) (by omega) (fun hr => ?_) (fun hr v' w' hown hgr => ?_)
  · have hj0 : j = 0 := by simp [bc1] at hj; omega
    subst hj0
    have := h4 (L.length) (by omega)
    simpa using this
  · have e : (⟨g, 0 + L.length * 1, none⟩ : Addr) = ⟨g, L.length, none⟩ := by simp
    have hw : w.setCells g (0 + L.length * 1) ([y].flatMap bc1) = w.setCell ⟨g, L.length, none⟩ (.int .u8 (y.toNat : Int)) := by
      show (w.setCell ⟨g, 0 + L.length * 1, none⟩ (.int .u8 (y.toNat : Int))).setCells g (0 + L.length * 1 + 1) [] = _
      rw [e]; rfl
    rw [hw]
    refine h _ _ ⟨g, cap, by rw [List.length_append]; rfl, hb, by simpa [World.setCell] using hg, by rw [List.length_append]; exact hr, h2, fun j u hu => ?_, fun j hj => ?_⟩ (K0.setCell hb _)
    · rw [Lib.byteCells, List.map_append] at hu
      by_cases hj : j < L.length
      · rw [List.getElem?_append_left (by simpa using hj)] at hu
        rw [World.cell?_setCell_other _ _ _ _ (by intro e; injection e with _ e2 _; omega)]
        exact h3 j u hu
      · rw [List.getElem?_append_right (by simpa using hj)] at hu
        have hj2 := (List.getElem?_eq_some_iff.1 hu).1
        simp at hj2
        obtain rfl : j = L.length := by omega
        simp at hu
        subst hu
        exact World.cell?_setCell_same' _ _ _ (h4 L.length (by omega)).1
    · rw [World.frozen?_setCell]
      refine ⟨?_, (h4 j hj).2⟩
      by_cases e : j = L.length
      · subst e
        rw [World.cell?_setCell_same' _ _ _ (h4 L.length (by omega)).1]; rfl
      · rw [World.cell?_setCell_other _ _ _ _ (by intro e'; injection e' with _ e2 _; omega)]
        exact (h4 j hj).1
  · refine h v' w' (RowG.of_own (by rw [List.length_append, List.flatMap_append, bc_flat]; exact World.ownsRow.mono hown K0.size) (by simp)) (K0.grown hgr (fun k e => by cases e))
theorem cnt_take (c : Nat) : ∀ i, i < 8 → (cntTo c 8).take (8 - i) = (cntTo c 8).take (8 - (i + 1)) ++ [byteOf c i]
  | 0, _ => rfl
  | 1, _ => rfl
  | 2, _ => rfl
  | 3, _ => rfl
  | 4, _ => rfl
  | 5, _ => rfl
  | 6, _ => rfl
  | 7, _ => rfl
  | _ + 8, h => by omega
set_option maxRecDepth 100000 in
set_option maxHeartbeats 1000000 in
theorem rounds_any (w : World) : Calls Tryd.prog 103 #[] w fun e w' => ∃ g, e = .returned (.slice (some ⟨g, 0, none⟩) 64 64) ∧ Row [] w' (some ⟨g, 0, none⟩) (wv K64) ∧ Kept w w' := by
  go_enter Tryd.func103, Tryd.ntmps103
  go_wp2
  go_ret
  exact ⟨_, rfl, (Own.new w 163 (wv K64)).row (by simp), (Kept.refl w).alloc _⟩
theorem state_any (w : World) : Calls Tryd.prog 104 #[] w fun e w' => ∃ g, e = .returned (.slice (some ⟨g, 0, none⟩) 8 8) ∧ Row [] w' (some ⟨g, 0, none⟩) (stv st0) ∧ Kept w w' := by
  go_enter Tryd.func104, Tryd.ntmps104
  go_wp2
  go_ret
  exact ⟨_, rfl, (Own.new w 163 (stv st0)).row (by simp), (Kept.refl w).alloc _⟩
theorem rblock_any (s : ByteArray) (st : St) (KA HA : Option Addr) (kc hc : Nat) (w : World) (hs : s.size = 64) (hk : Row [] w KA (wv K64)) (hh : Row [] w HA (stv st)) (hkc : 64 ≤ kc ∧ kc ≤ maxLen) (hhc : 8 ≤ hc ∧ hc ≤ maxLen) :
    Calls Tryd.prog 105 #[.slice KA 64 kc, .slice HA 8 hc, .string s] w fun e w' => ∃ A, e = .returned (.slice A 8 8) ∧ Row [] w' A (stv (blockSt st s)) ∧ Kept w w' := by
  refine rblock_n s st (wordsTo s) (rndTo (sched s) st) 64 KA HA kc hc w hs rfl rfl (fun k hk => words_succ s hk) (fun k hk => wordsTo_len s hk) rfl (fun k => ?_) hk hh hkc hhc
  rw [words_64]; rfl
end Go.Proofs.YtagpimahicgkmaaDoor
