/- Walk: the small functions of wal: write, flush, zeros, header, destination; WriteString. Walk: wal.destination. Walk: wal.suits. Plain: the plan of a transaction. Walk: (*strings.Builder).WriteString: what else it keeps. Plain: operations on a disk, one behind the other; what a commit and a repair leave. -/
import Derived.Test.YtagpimahicgkmaaDoorMb
import Derived.Test.YtagpimahicgkmaaDoorMa
import Derived.Test.YtagpimahicgkmaaDoorShelf
/-! Walk: the small functions of wal: write, flush, zeros, header, destination; WriteString. -/
namespace Go.Proofs.YtagpimahicgkmaaDoor
open Go.RowKit

/-- (*strings.Builder).WriteString, of the shelf. -/
theorem writeString_any (B b : Nat) (bs : List Value) (s : ByteArray) (w : World) (h : Lib.IsBuilder 87 5 B b bs w) (hlen : bs.length + s.size ≤ 140737488355328) (hBw : B ≤ w.heap.size) :
    Calls Tryd.prog 44 #[.pointer (some ⟨b, 0, none⟩), .string s] w fun e w' => e = .returned (.tuple #[.int .i64 s.size, .nilIface]) ∧ (Lib.BuilderAt 87 5 B b (.pointer (some ⟨b, 0, none⟩)) (bs ++ Lib.strCells s) w' ∧ Below B w w') :=
  Any.Builder_WriteString (P := Tryd.prog) (ρ := Tryd.lays156_ren) { Tryd.lays156 with } Tryd.Builder_Extra_156 B b bs s w h hlen hBw

/-- An operation: a write, or a flush. -/
structure WOp where
  fl : Bool
  wr : Wr
def opC (o : WOp) : List Value := [.bool o.fl, .int .i64 o.wr.at_, .string o.wr.data]
theorem Tryd.elOp : Elem Tryd.prog 33 40 3 32 opC :=
  Elem.of (z := .agg #[.bool false, .int .i64 0, .string ⟨#[]⟩]) (by kernel_rfl) (by kernel_rfl) rfl (by omega) (fun _ => rfl)

theorem opWrite_any (at_ : Int) (s : ByteArray) (w : World) :
    Calls Tryd.prog 45 #[.int .i64 at_, .string s] w fun e w' => e = .returned (.agg #[.bool false, .int .i64 at_, .string s]) ∧ Kept w w' := by
  go_enter Tryd.func45, Tryd.ntmps45
  go_wp2
  refine bodyPost_ret (v := .agg (opC ⟨false, ⟨at_, s⟩⟩).toArray) ?_ rfl ?_
  · exact results_cell_row Tryd.results45 _ _ w.heap.size 40 (opC ⟨false, ⟨at_, s⟩⟩).toArray (0, 0) _ (by rfl) (Own.new w _ (opC ⟨false, ⟨at_, s⟩⟩)) Tryd.underlying40 rfl (by kernel_rfl)
  · exact ⟨rfl, (Kept.refl w).alloc _⟩
theorem opFlush_any (w : World) :
    Calls Tryd.prog 46 #[] w fun e w' => e = .returned (.agg #[.bool true, .int .i64 0, .string ⟨#[]⟩]) ∧ Kept w w' := by
  go_enter Tryd.func46, Tryd.ntmps46
  go_wp2
  refine bodyPost_ret (v := .agg (opC ⟨true, ⟨0, ⟨#[]⟩⟩⟩).toArray) ?_ rfl ?_
  · exact results_cell_row Tryd.results46 _ _ w.heap.size 40 (opC ⟨true, ⟨0, ⟨#[]⟩⟩⟩).toArray (0, 0) _ (by rfl) (Own.new w _ (opC ⟨true, ⟨0, ⟨#[]⟩⟩⟩)) Tryd.underlying40 rfl (by kernel_rfl)
  · exact ⟨rfl, (Kept.refl w).alloc _⟩
def zerosB (n : Nat) : ByteArray := ⟨(List.replicate n 0).toArray⟩
theorem zerosB_size (n : Nat) : (zerosB n).size = n := by show (List.replicate n 0).toArray.size = n; simp
theorem repeat_zero : ∀ n, Lib.repeatL [(0 : UInt8)] n = List.replicate n 0
  | 0 => rfl
  | n + 1 => by rw [Lib.repeatL, repeat_zero n]; rfl
set_option maxHeartbeats 1000000 in
theorem zeros_any (n : Nat) (hn : n ≤ 1000000) (w : World) :
    Calls Tryd.prog 49 #[.int .i64 (n : Int)] w fun e w' => e = .returned (.string (zerosB n)) ∧ Kept w w' := by
  have h0 : (0 : Int) ≤ (n : Int) := by omega
  have hm : max (n : Int) 0 = (n : Int) := by omega
  have HR := Lib.hid (Tryd.strings_Repeat ⟨#[0]⟩ n w (by omega) (by show 1 * n ≤ _; omega))
  have HZ : Hid (zerosB n = ⟨(Lib.repeatL [(0 : UInt8)] n).toArray⟩) := by show _ = _; rw [repeat_zero]; rfl
  go_enter Tryd.func49, Tryd.ntmps49
  go_wp2_with fail
  refine HR.out.mono ?_
  rintro e w1 ⟨rfl, hk⟩
  go_wp2
  go_ret
  exact ⟨by rw [HZ.out]; rfl, hk⟩

/-- A header: of n entries, whose sectors are given. -/
def hdr (n : Nat) (all : ByteArray) : ByteArray := (⟨#[74, UInt8.ofNat n]⟩ ++ shaS all) ++ zerosB 30
theorem hdr_size (n : Nat) (all : ByteArray) : (hdr n all).size = 64 := by
  unfold hdr
  rw [ByteArray.size_append, ByteArray.size_append, shaS_size, zerosB_size]; rfl
theorem conv2 (W : World) (b : Nat) (x : UInt8) (y : Int) (hy : y = (x.toNat : Int)) (h : W.heap[b]? = some (.cells #[.int .u8 74, .int .u8 y] 5 (0, 0))) :
    (convert 85 9 (.slice (some ⟨b, 0, none⟩) 2 2)).run Tryd.prog W = .ok (.string ⟨#[74, x]⟩) W :=
  run_convert_bytes_back (P := Tryd.prog) W 85 9 5 ⟨b, 0, none⟩ 2 [74, x] Tryd.underlying85 Tryd.underlying5 Tryd.underlying9 (fun j hj => by
    subst hy
    have hO : Own W b 5 [.int .u8 74, .int .u8 (x.toNat : Int)] := h
    rw [Addr.add_mid, Nat.zero_add, hO.cell?]
    match j, hj with
    | 0, _ => rfl
    | 1, _ => rfl)
set_option maxHeartbeats 2000000 in
set_option maxRecDepth 100000 in
theorem header_any (n : Nat) (all : ByteArray) (hn : n ≤ 255) (hall : all.size ≤ 1000000) (w : World) (ht : Tabs w) :
    Calls Tryd.prog 47 #[.int .i64 (n : Int), .string all] w fun e w' => e = .returned (.string (hdr n all)) ∧ Kept w w' := by
  have HS : Hid (∀ w1, Kept w w1 → Calls Tryd.prog 80 #[.string all] w1 fun e w' => e = .returned (.string (shaS all)) ∧ Kept w1 w') := fun w1 k => sum_any all w1 (ht.kept k) hall
  have HZ := Lib.hid (zeros_any 30 (by omega))
  have HH : Hid ((⟨#[74, UInt8.ofNat n]⟩ ++ shaS all) ++ zerosB 30 = hdr n all) := rfl
  have hsz : (shaS all).size = 32 := shaS_size all
  have h1 : IntKind.u8.wrap (n : Int) = ((UInt8.ofNat n).toNat : Int) := by rw [UInt8.toNat_ofNat']; show (n : Int) % 256 = _; omega
  generalize hx : UInt8.ofNat n = x at *
  have hcv := fun w' : World => conv2 (w'.alloc (.cells #[.int .u8 74, .int .u8 (IntKind.u8.wrap (n : Int))] 5)) w'.heap.size x _ h1 (heap_alloc_new w' _)
  have hcd := fun w' : World => conv2 (w'.alloc (.cells #[.int .u8 74, .int .u8 (IntKind.u8.wrap (n : Int))] 5)).drew w'.heap.size x _ h1 (heap_alloc_new w' _)
  have H1 := Lib.hid h1
  clear ht hall hx h1
  generalize shaS all = S at *
  go_enter Tryd.func47, Tryd.ntmps47
  go_upto_region 1 with fail
  go_region_with (go_at_call 80; refine (HS.out _ (by first | exact (Kept.refl w).drew | exact ((Kept.refl w).alloc _).drew)).mono ?_; rintro e w1 ⟨rfl, hk⟩; first | (have hcvB := conv2 w1 w.heap.size x _ H1.out ((hk.block w.heap.size (by simp)).trans (heap_alloc_new w _))) | skip)
  all_goals
    go_wp2_with fail
    refine (HZ.out _).mono ?_
    rintro e w2 ⟨rfl, hk2⟩
    have K2 : Kept w w2 := by
      first
        | exact ((((Kept.refl w).alloc _).drew).trans hk).trans hk2
        | exact ((((Kept.refl w).drew).trans hk).alloc _).trans hk2
    clear hk hk2
    go_wp2
    go_ret
    exact ⟨by rw [← HH.out]; rfl, K2⟩
end Go.Proofs.YtagpimahicgkmaaDoor

/-! Walk: wal.destination. -/
namespace Go.Proofs.YtagpimahicgkmaaDoor
open Go.RowKit

/-- The sector of a destination: its first bytes. -/
def dstTo (at_ : Nat) : Nat → List UInt8
  | 0 => List.replicate 64 0
  | k + 1 => (dstTo at_ k).set k (byteOf at_ k)
theorem dstTo_len (at_ : Nat) : ∀ k, (dstTo at_ k).length = 64
  | 0 => by simp [dstTo]
  | k + 1 => by rw [dstTo, List.length_set, dstTo_len at_ k]
def dst (at_ : Nat) : ByteArray := ⟨(dstTo at_ 4).toArray⟩
theorem dst_size (at_ : Nat) : (dst at_).size = 64 := by
  show (dstTo at_ 4).toArray.size = 64
  rw [List.size_toArray, dstTo_len]
set_option maxRecDepth 100000 in
set_option maxHeartbeats 2000000 in
theorem dst_n (n : Nat) (w : World) (R : List UInt8) (m : Nat) (hm : m = 4) (F : Nat → List UInt8) (hF0 : F 0 = List.replicate 64 0) (hFs : ∀ k, F (k + 1) = (F k).set k (byteOf n k)) (hFl : ∀ k, (F k).length = 64) (hR : F m = R) :
    Calls Tryd.prog 43 #[.int .i64 (n : Int)] w fun e w' => e = .returned (.string ⟨R.toArray⟩) ∧ Kept w w' := by
  have hmk : ∀ w' : World, (Instr.makeSlice 85 (.int .i64 64) (.int .i64 64)).run Tryd.prog w' = .ok (.slice (some ⟨w'.heap.size, 0, none⟩) 64 64) (w'.alloc (.cells (Lib.byteCells (List.replicate 64 0)).toArray 5)) := fun _ => by kernel_rfl
  rw [← hF0] at hmk
  have HR := Lib.hid hR
  have HM := Lib.hid hm
  have HS := Lib.hid hFs
  have HL := Lib.hid hFl
  clear hF0 hFs hFl hR hm
  go_enter Tryd.func43, Tryd.ntmps43
  go_wp2
  have OT : Hid (Own (w.alloc (.cells (Lib.byteCells (F 0)).toArray 5)) w.heap.size 5 (Lib.byteCells (F 0))) := Own.new w _ _
  have K : Kept w (w.alloc (.cells (Lib.byteCells (F 0)).toArray 5)) := (Kept.refl w).alloc _
  generalize (w.alloc (.cells (Lib.byteCells (F 0)).toArray 5)) = w1 at *
  go_loopw [6] (fun iv wq => ∃ i : Nat, i ≤ 4 ∧ iv = .int .i64 i ∧ Own wq w.heap.size 5 (Lib.byteCells (F i)) ∧ Kept w wq) (fun iv _ => 4 - (intOf iv).toNat)
  case atStart => exact ⟨0, Nat.zero_le _, rfl, OT.out, K⟩
  case round =>
    clear OT K
    obtain ⟨i, hi, rfl, ot, K⟩ := hrel
    have OT := Lib.hid ot
    by_cases hlt : i < 4
    · obtain ⟨old2, ho⟩ : ∃ v, wr.cell? ⟨w.heap.size, i, none⟩ = some v := ⟨_, ot.cell (by rw [Lib.byteCells, List.length_map, HL.out]; omega)⟩
      have hf := ot.frozen i
      clear ot
      have i0 : (0 : Int) ≤ (i : Int) := by omega
      have i1 : (i : Int) < 4 := by omega
      have i2 : (i : Int) < 64 := by omega
      have i3 : (0 : Int) ≤ 8 * (i : Int) := by omega
      have q1 : IntKind.i64.wrap (8 * (i : Int)) = 8 * (i : Int) := IntWalk.i64_in _ (by omega)
      have q7 : min (8 * (i : Int)).toNat IntKind.i64.bits = 8 * i := by show min _ 64 = _; omega
      go_wp2
      go_roundw
      case rel =>
        rw [byte_of]
        refine ⟨i + 1, by omega, by go_num, ?_, K.setCell (Nat.le_refl _) _⟩
        rw [HS.out, bc_set]
        exact OT.out.set_ i _
      case measure => simp [intOf]; omega
    · obtain rfl : i = m := by rw [HM.out]; omega
      clear ot
      rw [HR.out] at OT
      have hRl : R.length = 64 := by rw [← HR.out]; exact HL.out _
      have hcv := run_convert_bytes_back (P := Tryd.prog) wr 85 9 5 ⟨w.heap.size, 0, none⟩ 64 R Tryd.underlying85 Tryd.underlying5 Tryd.underlying9 (fun j hj => by
        rw [Addr.add_mid, Nat.zero_add, OT.out.cell?, bc_at hj])
      rw [hRl] at hcv
      have i1 : ¬ (i : Int) < 4 := by have := HM.out; omega
      go_wp2
      go_ret
      exact ⟨rfl, K⟩
theorem dst_any (n : Nat) (w : World) :
    Calls Tryd.prog 43 #[.int .i64 (n : Int)] w fun e w' => e = .returned (.string (dst n)) ∧ Kept w w' := by
  unfold dst
  generalize hm : (4 : Nat) = m
  exact dst_n n w _ m hm.symm (dstTo n) rfl (fun _ => rfl) (dstTo_len n) rfl
end Go.Proofs.YtagpimahicgkmaaDoor

/-! Walk: wal.suits. Plain: the plan of a transaction. -/
namespace Go.Proofs.YtagpimahicgkmaaDoor
open Go.RowKit

def suitsB (d : Dk) : Bool := decide (61 < d.sec.length) && rightB d
set_option maxHeartbeats 1000000 in
theorem suits_any (V : List Nat) (d : Dk) (v : Value) (w : World) (h : DkAt V w v d) :
    Calls Tryd.prog 42 #[v] w fun e w' => e = .returned (.bool (suitsB d)) ∧ Kept w w' := by
  have H := Lib.hid h
  obtain ⟨_, _, rfl, ⟨A, c, rfl, hl, hm, hr⟩, ⟨A', c', rfl, hl', hm', hr'⟩⟩ := h
  unfold maxLen at hm hm'
  clear hr hr'
  by_cases h1 : 61 < d.sec.length
  · have h1' : (61 : Int) < (d.sec.length : Int) := by omega
    have hs : Hid (suitsB d = rightB d) := by show _ = _; simp [suitsB, h1]
    go_enter Tryd.func42, Tryd.ntmps42
    have K : Kept w (w.alloc (.cells #[.slice A d.sec.length c, .slice A' d.cache.length c'] 25)) := (Kept.refl w).alloc _
    go_wp2_with fail
    refine (right_any V d _ _ (H.out.go K (Ext.refl _ _))).mono ?_
    rintro e w1 ⟨rfl, hk⟩
    replace K := K.trans hk
    go_wp2
    go_ret
    exact ⟨by rw [hs.out]; rfl, K⟩
  · have h1' : ¬ (61 : Int) < (d.sec.length : Int) := by omega
    have hs : Hid (suitsB d = false) := by show _ = _; simp [suitsB, h1]
    go_enter Tryd.func42, Tryd.ntmps42
    go_wp2
    go_ret
    exact ⟨by rw [hs.out]; rfl, (Kept.refl w).alloc _⟩

section
variable {T e : TypeId} {B b : Nat} {p : Value} {bs : List Value} {w w' : World}
/-- A builder lies in each world in which the blocks from B on are as they were. -/
theorem bd_same (h : Lib.BuilderAt T e B b p bs w) (hk : ∀ k, B ≤ k → k < w.heap.size → w'.heap[k]? = w.heap[k]?) : Lib.BuilderAt T e B b p bs w' := by
  have hlt := h.lt
  obtain ⟨hB, v, hb, hown, hne⟩ := h
  refine ⟨hB, v, by rw [hk b hB hlt]; exact hb, ⟨hown.1, ?_⟩, hne⟩
  rcases hown.2 with hn | ⟨g, cap, cur, hv, hg, hh, rest⟩
  · exact .inl hn
  · refine .inr ⟨g, cap, cur, hv, hg, ?_, rest⟩
    have hl : g < w.heap.size := by
      rcases Nat.lt_or_ge g w.heap.size with h' | h'
      · exact h'
      · rw [Array.getElem?_eq_none h'] at hh; cases hh
    rw [hk g hg hl]; exact hh
theorem bd_kept (h : Lib.BuilderAt T e B b p bs w) (k : Kept w w') : Lib.BuilderAt T e B b p bs w' := bd_same h fun j _ hj => k.block j hj
theorem bd_grown (h : Lib.BuilderAt T e B b p bs w) {g : Nat} (hg : w.grownBy w' (some g)) (hlt : g < B) : Lib.BuilderAt T e B b p bs w' :=
  bd_same h fun j hj hs => hg.block j hs (by intro e; injection e with e; omega)
theorem bd_new (w : World) (T e : TypeId) : Lib.BuilderAt T e w.heap.size w.heap.size (.pointer none) [] (w.alloc (.cells #[.pointer none, .slice none 0 0] T)) :=
  ⟨Nat.le_refl _, _, heap_alloc_new w _, ⟨rfl, .inl ⟨rfl, rfl⟩⟩, by intro h; cases h⟩
end

section
variable {P : Program} {sl e : TypeId} {size bytes : Nat} {α : Type} {f : α → List Value}
/-- An append for which there is room: the same block. -/
theorem Elem.wp_fit (E : Elem P sl e size bytes f) {w : World} {o : Oper} {a : Act} {K : Act → World → Prop} {Q : Exit → Act → World → Prop} (s x : Operand)
    (ho : o.op = .call { callee := .builtin .append, args := #[s, x], argTypes := #[sl, sl] })
    (base g cap : Nat) (l : List α) (hs : a.eval s = .slice (some ⟨g, 0, none⟩) l.length cap) (hown : w.ownsRow base e size (.slice (some ⟨g, 0, none⟩) l.length cap) l.length (l.flatMap f))
    (b c : Nat) (m : List α) (hx : a.eval x = .slice (some ⟨b, 0, none⟩) m.length c) (hc : Own w b e (m.flatMap f)) (h1 : ∀ u ∈ m.flatMap f, u.oneCell' = true) (hroom : l.length + m.length ≤ cap)
    (h : ∀ w', w'.ownsRow base e size (.slice (some ⟨g, 0, none⟩) (l ++ m).length cap) (l ++ m).length ((l ++ m).flatMap f) → w.grownBy w' (some g) → K (a.put o.dst (.slice (some ⟨g, 0, none⟩) (l ++ m).length cap)) w') : o.wp P a w K Q := by
  obtain ⟨i, z, hi, hz, hsz, hb, hzs⟩ := E.info
  obtain ⟨w', hrun, hw, hg⟩ := run_append_fits (P := P) w base sl o.type e i size E.und hi hsz g l.length cap (l.flatMap f) hown ⟨b, 0, none⟩ m.length c (m.flatMap f) (E.cells_length m) (fun j u hu => by
    rw [Addr.add_mid, Nat.zero_add, hc.cell?]; exact hu) h1 hroom
  unfold Oper.wp execOp
  simp only [ho, resolve, invoke, builtin, Sem.run_bind, Sem.run_pure, Result.andThen_ok, List.map_toArray, List.map_cons, List.map_nil, hs, hx, hrun]
  have := h w' (by rw [List.length_append, List.flatMap_append]; exact hw) hg
  rwa [List.length_append] at this
theorem Elem.wpList_fit (E : Elem P sl e size bytes f) {w : World} {ops : Array Oper} {rest : List Oper} {o : Oper} {a : Act} {Q : Exit → Act → World → Prop} (hgd : o.guard = none) (s x : Operand)
    (ho : o.op = .call { callee := .builtin .append, args := #[s, x], argTypes := #[sl, sl] })
    (base g cap : Nat) (l : List α) (hs : a.eval s = .slice (some ⟨g, 0, none⟩) l.length cap) (hown : w.ownsRow base e size (.slice (some ⟨g, 0, none⟩) l.length cap) l.length (l.flatMap f))
    (b c : Nat) (m : List α) (hx : a.eval x = .slice (some ⟨b, 0, none⟩) m.length c) (hc : Own w b e (m.flatMap f)) (h1 : ∀ u ∈ m.flatMap f, u.oneCell' = true) (hroom : l.length + m.length ≤ cap)
    (h : ∀ w', w'.ownsRow base e size (.slice (some ⟨g, 0, none⟩) (l ++ m).length cap) (l ++ m).length ((l ++ m).flatMap f) → w.grownBy w' (some g) → wpList P ops Q rest (a.put o.dst (.slice (some ⟨g, 0, none⟩) (l ++ m).length cap)) w') : wpList P ops Q (o :: rest) a w :=
  wpList_plain hgd fun _ hK => E.wp_fit s x ho base g cap l hs hown b c m hx hc h1 hroom fun w' h2 h3 => hK _ _ (h w' h2 h3)
theorem Elem.step_fit (E : Elem P sl e size bytes f) {w : World} {ops : Array Oper} {o : Oper} {a : Act} {K : Act → World → Prop} {Q : Exit → Act → World → Prop} {F : Prop} (hgd : o.guard = none) (s x : Operand)
    (ho : o.op = .call { callee := .builtin .append, args := #[s, x], argTypes := #[sl, sl] })
    (base g cap : Nat) (l : List α) (hs : a.eval s = .slice (some ⟨g, 0, none⟩) l.length cap) (hown : w.ownsRow base e size (.slice (some ⟨g, 0, none⟩) l.length cap) l.length (l.flatMap f))
    (b c : Nat) (m : List α) (hx : a.eval x = .slice (some ⟨b, 0, none⟩) m.length c) (hc : Own w b e (m.flatMap f)) (h1 : ∀ u ∈ m.flatMap f, u.oneCell' = true) (hroom : l.length + m.length ≤ cap)
    (h : ∀ w', w'.ownsRow base e size (.slice (some ⟨g, 0, none⟩) (l ++ m).length cap) (l ++ m).length ((l ++ m).flatMap f) → w.grownBy w' (some g) → K (a.put o.dst (.slice (some ⟨g, 0, none⟩) (l ++ m).length cap)) w') :
    if Region.wanted o (yielded ops a.tmps) = true then Oper.wp P o a w K Q else F := by
  have hw : Region.wanted o (yielded ops a.tmps) = true := by simp [Region.wanted, hgd]
  rw [if_pos hw]
  exact E.wp_fit s x ho base g cap l hs hown b c m hx hc h1 hroom h
end

def okW (d : Dk) (x : Wr) : Bool := decide (61 ≤ x.at_) && decide (x.at_ < d.sec.length) && x.data.size == 64
/-- The error of a transaction. -/
def planErr (d : Dk) (l : List Wr) : Int := if suitsB d = false ∨ l.length = 0 then 1 else if l.all (okW d) = false then 1 else if 30 < l.length then 4 else 0
def atW (l : List Wr) (k : Nat) : Wr := l.getD k ⟨0, ⟨#[]⟩⟩
def opF : WOp := ⟨true, ⟨0, ⟨#[]⟩⟩⟩
/-- The operations of the first entries, and their sectors. -/
def entTo (l : List Wr) : Nat → List WOp
  | 0 => []
  | k + 1 => entTo l k ++ [⟨false, ⟨1 + 2 * (k : Int), dst (atW l k).at_.toNat⟩⟩, ⟨false, ⟨2 + 2 * (k : Int), (atW l k).data⟩⟩]
def allTo (l : List Wr) : Nat → List UInt8
  | 0 => []
  | k + 1 => allTo l k ++ (dst (atW l k).at_.toNat).data.toList ++ (atW l k).data.data.toList
def planOps (l : List Wr) : List WOp :=
  entTo l l.length ++ [opF, ⟨false, ⟨0, hdr l.length ⟨(allTo l l.length).toArray⟩⟩⟩, opF] ++ l.map (fun x => ⟨false, x⟩) ++ [opF, ⟨false, ⟨0, zerosB 64⟩⟩, opF]
def OpsAt (V : List Nat) (w : World) (v : Value) (l : List WOp) : Prop :=
  ∃ A c, v = .slice A l.length c ∧ l.length ≤ c ∧ c ≤ maxLen ∧ Row V w A (l.flatMap opC)
theorem opC_one (l : List WOp) : ∀ u ∈ l.flatMap opC, u.oneCell' = true := by
  intro u hu
  obtain ⟨x, _, hx⟩ := List.mem_flatMap.1 hu
  simp only [opC, List.mem_cons, List.not_mem_nil, or_false] at hx
  rcases hx with rfl | rfl | rfl <;> rfl
theorem entTo_len (l : List Wr) : ∀ k, (entTo l k).length = 2 * k
  | 0 => rfl
  | k + 1 => by rw [entTo, List.length_append, entTo_len l k]; rfl
theorem planOps_len (l : List Wr) : (planOps l).length = 3 * l.length + 6 := by
  unfold planOps
  simp only [List.length_append, entTo_len, List.length_map, List.length_cons, List.length_nil]
  omega
end Go.Proofs.YtagpimahicgkmaaDoor

/-! Walk: (*strings.Builder).WriteString: what else it keeps. -/
namespace Go.Proofs.YtagpimahicgkmaaDoor
open Go.RowKit

theorem own_lt {w : World} {base : Nat} {e : TypeId} {size n : Nat} {v : Value} {xs : List Value} (h : w.ownsRow base e size v n xs) (k : Nat) (hk : v.ownBlock = some k) : k < w.heap.size := (h.lt k hk).2
theorem own_same {w w' : World} {base : Nat} {e : TypeId} {size n : Nat} {v : Value} {xs : List Value} (h : w.ownsRow base e size v n xs) (hk : ∀ k, base ≤ k → k < w.heap.size → w'.heap[k]? = w.heap[k]?) : w'.ownsRow base e size v n xs := by
  refine ⟨h.1, ?_⟩
  rcases h.2 with hn | ⟨g, cap, cur, hv, hg, hh, rest⟩
  · exact .inl hn
  · exact .inr ⟨g, cap, cur, hv, hg, (hk g hg (Array.getElem?_eq_some_iff.1 hh).1).trans hh, rest⟩
theorem copyCheck_s (b : Nat) (w : World) (p v : Value) (hp : p = .pointer none ∨ p = .pointer (some ⟨b, 0, none⟩)) (hb : w.heap[b]? = some (.cells #[p, v] 87 (0, 0))) :
    Calls Tryd.prog 79 #[.pointer (some ⟨b, 0, none⟩)] w fun e w' => e = .returned (.tuple #[]) ∧ w'.heap[b]? = some (.cells #[.pointer (some ⟨b, 0, none⟩), v] 87 (0, 0)) ∧ w.grownBy w' (some b) := by
  rcases hp with rfl | rfl
  · refine (Any.Builder_copyCheck_fresh (P := Tryd.prog) (ρ := Tryd.lays156_ren) { Tryd.lays156 with } Tryd.Builder_Extra_156.toX72 b w (by simp [World.cell?, hb]) (by simp [World.shape?, hb]; rfl) (by simp [World.frozen?, hb])).mono ?_
    rintro e w' ⟨rfl, rfl⟩
    refine ⟨rfl, ?_, ⟨rfl, rfl, rfl, by simp, fun k _ hk => ?_⟩⟩
    · exact (Own.set_ (w := w) (g := b) (cs := [.pointer none, v]) hb 0 _)
    · have : k ≠ b := fun e => hk (by rw [e])
      exact Below.heap_setCell _ _ _ k this
  · refine (Any.Builder_copyCheck_used (P := Tryd.prog) (ρ := Tryd.lays156_ren) { Tryd.lays156 with } Tryd.Builder_Extra_156.toX72 b w (by simp [World.cell?, hb])).mono ?_
    rintro e w' ⟨rfl, rfl⟩
    exact ⟨rfl, hb, World.grownBy.refl _ _⟩
set_option maxHeartbeats 1000000 in
/-- WriteString: a block that is neither the builder's own nor of bytes is kept. -/
theorem writeString_t (B b : Nat) (bs : List Value) (s : ByteArray) (w : World) (h : Lib.IsBuilder 87 5 B b bs w) (hlen : bs.length + s.size ≤ 140737488355328) (hBw : B ≤ w.heap.size) :
    Calls Tryd.prog 44 #[.pointer (some ⟨b, 0, none⟩), .string s] w fun e w' => e = .returned (.tuple #[.int .i64 s.size, .nilIface]) ∧ Lib.IsBuilder 87 5 B b (bs ++ Lib.strCells s) w' ∧ Below B w w' ∧ w.heap.size ≤ w'.heap.size ∧ ∀ t cs T fr, t ≠ b → T ≠ 5 → w.heap[t]? = some (.cells cs T fr) → w'.heap[t]? = some (.cells cs T fr) := by
  obtain ⟨i0, hi, hz0, hz1, hz2⟩ := info_parts Tryd.Builder_Extra_156.infoByte
  obtain ⟨p, hp, hB, v, hbk, hown, hne⟩ : ∃ p, (p = .pointer none ∨ p = .pointer (some ⟨b, 0, none⟩)) ∧ Lib.BuilderAt 87 5 B b p bs w := by
    rcases h with h | h
    · exact ⟨_, .inl rfl, h⟩
    · exact ⟨_, .inr rfl, h⟩
  have HNT : Hid (∀ t cs T fr, T ≠ 5 → w.heap[t]? = some (.cells cs T fr) → v.ownBlock ≠ some t) := fun t cs T fr hT ht => Lib.ownBlock_ne hown ht hT
  clear h
  go_enter Tryd.func44, Tryd.ntmps44
  go_wp2_with fail
  refine (copyCheck_s b w p v hp hbk).mono ?_
  rintro e w1 ⟨rfl, hb1, hg1⟩
  have hown1 := hown.kept hg1 (.inr hne)
  have hs1 := hg1.size
  clear hown hbk
  have c0 : w1.cell? ⟨b, 0, none⟩ = some (.pointer (some ⟨b, 0, none⟩)) := by rw [Lib.cell_of_heap hb1]; rfl
  have c1 : w1.cell? ⟨b, 1, none⟩ = some v := by rw [Lib.cell_of_heap hb1]; rfl
  go_wp2_with (at_builtin; refine Lib.wpList_append_own_string _ rfl _ _ 85 9 rfl B 5 i0 Tryd.underlying85 Tryd.underlying9 hi hz0 hz1 hz2 _ _ _ rfl hown1 s rfl ?c3 ?c4 ?c5 ?_)
  case c3 => unfold maxLen; omega
  case c4 => omega
  case c5 => omega
  intro v' w2 hown' hgrow _
  have hlt : b < w1.heap.size := (Array.getElem?_eq_some_iff.1 hb1).1
  have hb2 : w2.heap[b]? = some (.cells #[.pointer (some ⟨b, 0, none⟩), v] 87 (0, 0)) := by
    rw [hgrow.block b hlt (fun e => hne e.symm)]
    exact hb1
  have d0 : w2.cell? ⟨b, 0, none⟩ = some (.pointer (some ⟨b, 0, none⟩)) := by rw [Lib.cell_of_heap hb2]; rfl
  have d1 : w2.cell? ⟨b, 1, none⟩ = some v := by rw [Lib.cell_of_heap hb2]; rfl
  have f1 : w2.frozen? ⟨b, 1, none⟩ = false := Lib.frozen_of_heap hb2 1
  obtain ⟨ao, n', cap, rfl⟩ : ∃ ao n' cap, v' = .slice ao n' cap := by
    rcases hown'.2 with ⟨hv, _⟩ | ⟨g, cap, cur, hv, _⟩
    · exact ⟨_, _, _, hv⟩
    · exact ⟨_, _, _, hv⟩
  go_wp2
  go_ret2
  refine ⟨rfl, .inr ?_, ?_, ?_, ?_⟩
  · exact Lib.BuilderAt.put (T := 87) (e := 5) hB hb2 (bs' := bs ++ Lib.strCells s) (by simpa [Lib.strCells_length] using hown') (by decide)
  · exact ((((Below.refl B w).grown hg1 hBw (fun k e => by injection e with e; omega)).grown hgrow (by omega) (fun k e => (hown1.lt k e).1)).setCell (p := ⟨b, 1, none⟩) hB _)
  · have := hgrow.size
    simp; omega
  · intro t cs T fr htb hT ht
    have hvt := HNT.out t cs T fr hT ht
    have htw : t < w.heap.size := (Array.getElem?_eq_some_iff.1 ht).1
    rw [Below.heap_setCell _ _ _ t htb, hgrow.block t (by omega) (fun e => hvt e.symm), hg1.block t htw (by intro e; injection e with e; exact htb e)]
    exact ht
end Go.Proofs.YtagpimahicgkmaaDoor

/-! Plain: operations on a disk, one behind the other; what a commit and a repair leave. -/
namespace Go.Proofs.YtagpimahicgkmaaDoor

/-- The disk behind one operation, and behind the first n of a list. -/
def stepO (d : Dk) (o : WOp) : Dk := if o.fl then flushD d else if (putR d o.wr).2 = 0 then (putR d o.wr).1 else d
def runO (d : Dk) (l : List WOp) (n : Nat) : Dk := (l.take n).foldl stepO d
/-- Sectors behind writes. -/
def setL (v : List ByteArray) (ws : List Wr) : List ByteArray := ws.foldl (fun v x => v.set x.at_.toNat x.data) v
def atS (l : List ByteArray) (n : Nat) : ByteArray := l.getD n .empty
def wop (x : Wr) : WOp := ⟨false, x⟩
/-- What a disk's sectors read, pending writes done. -/
def viewD (d : Dk) : List ByteArray := setL d.sec d.cache

theorem setL_len (ws : List Wr) : ∀ v, (setL v ws).length = v.length := by
  induction ws with
  | nil => intro v; rfl
  | cons x ws ih => intro v; show (setL (v.set _ _) ws).length = _; rw [ih, List.length_set]
theorem setL_app (v : List ByteArray) (a b : List Wr) : setL v (a ++ b) = setL (setL v a) b := by simp [setL]
theorem atS_set {l : List ByteArray} {k n : Nat} {s : ByteArray} (hn : n < l.length) : atS (l.set k s) n = if k = n then s else atS l n := by
  unfold atS
  rw [List.getD_eq_getElem?_getD, List.getD_eq_getElem?_getD, List.getElem?_set]
  by_cases h : k = n
  · subst h; simp [hn]
  · simp [h]
theorem setL_at {n : Nat} : ∀ {ws : List Wr} (_ : ∀ x ∈ ws, 0 ≤ x.at_) {v : List ByteArray} (_ : n < v.length), atS (setL v ws) n = readTo n (atS v n) ws
  | [], _, _, _ => rfl
  | x :: ws, h, v, hn => by
    have hx := h x (by simp)
    have ih := setL_at (n := n) (ws := ws) (fun y hy => h y (by simp [hy])) (v := v.set x.at_.toNat x.data) (by simpa using hn)
    show atS (setL (v.set x.at_.toNat x.data) ws) n = _
    rw [ih, atS_set hn]
    show _ = readTo n (if x.at_ = n then x.data else atS v n) ws
    by_cases e : x.at_ = n
    · rw [if_pos e, if_pos (by omega)]
    · rw [if_neg e, if_neg (by omega)]
theorem perfTo_all (l : List ByteArray) (ws : List Wr) : ∀ k, k ≤ ws.length → perfTo l ws (fun _ => true) k = setL l (ws.take k)
  | 0, _ => rfl
  | k + 1, h => by rw [perfTo_yes (by omega) rfl, perfTo_all l ws k (by omega), List.take_succ_eq_append_getElem (by omega), setL_app]; rfl
theorem flushD_view {d : Dk} (h : rightB d = true) : flushD d = ⟨viewD d, []⟩ := by
  unfold flushD perf viewD
  rw [if_pos h, perfTo_all _ _ _ (Nat.le_refl _), List.take_of_length_le (Nat.le_refl _)]
theorem right_flush {d : Dk} (h : rightB d = true) : rightB ⟨viewD d, []⟩ = true := by
  have := right_perf (fun _ => true) h
  rwa [show perf d (fun _ => true) = flushD d by unfold flushD; rw [if_pos h], flushD_view h] at this
theorem view_len (d : Dk) : (viewD d).length = d.sec.length := setL_len _ _
theorem fits_parts {x : Wr} {n : Nat} (h : fitsB x n = true) : 0 ≤ x.at_ ∧ x.at_ < n ∧ x.data.size = 64 := by
  simp only [fitsB, Bool.and_eq_true, decide_eq_true_eq, beq_iff_eq] at h
  exact ⟨h.1.1, h.1.2, h.2⟩
theorem fits_mk {x : Wr} {n : Nat} (h1 : 0 ≤ x.at_) (h2 : x.at_ < n) (h3 : x.data.size = 64) : fitsB x n = true := by
  simp [fitsB, h1, h2, h3]
theorem right_app {d : Dk} {ws : List Wr} (h : rightB d = true) (hf : ∀ x ∈ ws, fitsB x d.sec.length = true) : rightB ⟨d.sec, d.cache ++ ws⟩ = true := by
  simp only [rightB, Bool.and_eq_true] at h ⊢
  refine ⟨h.1, ?_⟩
  rw [List.all_append, h.2, Bool.true_and, List.all_eq_true]
  exact hf
theorem step_w {d : Dk} {x : Wr} (h : rightB d = true) (hf : fitsB x d.sec.length = true) : stepO d (wop x) = ⟨d.sec, d.cache ++ [x]⟩ := by
  simp [stepO, wop, putR, h, hf]
theorem step_n {d : Dk} {x : Wr} (hf : fitsB x d.sec.length = false) : stepO d (wop x) = d := by
  simp [stepO, wop, putR, hf]
theorem step_f {d : Dk} (h : rightB d = true) : stepO d opF = ⟨viewD d, []⟩ := by
  rw [← flushD_view h]; rfl
theorem step_fl {d : Dk} {o : WOp} (h : rightB d = true) (ho : o.fl = true) : stepO d o = ⟨viewD d, []⟩ := by
  rw [← flushD_view h]; unfold stepO; rw [if_pos ho]
theorem step_right {d : Dk} (o : WOp) (h : rightB d = true) : rightB (stepO d o) = true ∧ (stepO d o).sec.length = d.sec.length := by
  obtain ⟨f, x⟩ := o
  cases f with
  | true => rw [step_fl h rfl]; exact ⟨right_flush h, view_len d⟩
  | false =>
    show rightB (stepO d (wop x)) = true ∧ (stepO d (wop x)).sec.length = _
    rcases Bool.eq_false_or_eq_true (fitsB x d.sec.length) with hf | hf
    · rw [step_w h hf]
      exact ⟨right_app (ws := [x]) h (by simpa using hf), rfl⟩
    · rw [step_n hf]; exact ⟨h, rfl⟩
theorem fold_right : ∀ (l : List WOp) {d : Dk}, rightB d = true → rightB (l.foldl stepO d) = true ∧ (l.foldl stepO d).sec.length = d.sec.length
  | [], _, h => ⟨h, rfl⟩
  | o :: l, d, h => by
    obtain ⟨h1, h2⟩ := step_right o h
    obtain ⟨h3, h4⟩ := fold_right l h1
    exact ⟨h3, h4.trans h2⟩
theorem fold_w : ∀ (ws : List Wr) {d : Dk}, rightB d = true → (∀ x ∈ ws, fitsB x d.sec.length = true) → (ws.map wop).foldl stepO d = ⟨d.sec, d.cache ++ ws⟩
  | [], d, _, _ => by simp
  | x :: ws, d, h, hf => by
    have hx := hf x (by simp)
    show (ws.map wop).foldl stepO (stepO d (wop x)) = _
    rw [step_w h hx, fold_w ws (right_app (ws := [x]) h (by simpa using hx)) (fun y hy => hf y (by simp [hy]))]
    simp
theorem run_all (d : Dk) (l : List WOp) : runO d l l.length = l.foldl stepO d := by rw [runO, List.take_length]
theorem run_over (d : Dk) (l : List WOp) {n : Nat} (h : l.length ≤ n) : runO d l n = l.foldl stepO d := by rw [runO, List.take_of_length_le h]
theorem run_nil (d : Dk) (n : Nat) : runO d [] n = d := by simp [runO]
/-- A group of writes, and a flush. -/
theorem run_in {d : Dk} {ws : List Wr} {T : List WOp} {k : Nat} (h : rightB d = true) (hf : ∀ x ∈ ws, fitsB x d.sec.length = true) (hk : k ≤ ws.length) : runO d (ws.map wop ++ T) k = ⟨d.sec, d.cache ++ ws.take k⟩ := by
  unfold runO
  rw [List.take_append_of_le_length (by simpa using hk), ← List.map_take]
  exact fold_w _ h (fun x hx => hf x (List.mem_of_mem_take hx))
theorem run_past {d : Dk} {ws : List Wr} {T : List WOp} {k : Nat} (h : rightB d = true) (hf : ∀ x ∈ ws, fitsB x d.sec.length = true) (hk : ws.length < k) : runO d (ws.map wop ++ opF :: T) k = runO ⟨setL (viewD d) ws, []⟩ T (k - (ws.length + 1)) := by
  obtain ⟨j, rfl⟩ : ∃ j, k = ws.length + 1 + j := ⟨k - (ws.length + 1), by omega⟩
  unfold runO
  rw [List.take_append, List.take_of_length_le (by simp; omega), List.foldl_append, fold_w _ h hf]
  have e : ws.length + 1 + j - (ws.map wop).length = j + 1 := by simp; omega
  rw [e, List.take_succ_cons, List.foldl_cons, step_f (right_app h hf), Nat.add_sub_cancel_left]
  show List.foldl stepO ⟨setL d.sec (d.cache ++ ws), []⟩ _ = _
  rw [setL_app]; rfl
theorem fold_group {d : Dk} {ws : List Wr} {T : List WOp} (h : rightB d = true) (hf : ∀ x ∈ ws, fitsB x d.sec.length = true) : (ws.map wop ++ opF :: T).foldl stepO d = T.foldl stepO ⟨setL (viewD d) ws, []⟩ := by
  rw [List.foldl_append, fold_w _ h hf, List.foldl_cons, step_f (right_app h hf)]
  show List.foldl stepO ⟨setL d.sec (d.cache ++ ws), []⟩ _ = _
  rw [setL_app]; rfl

/-- What a sector reads behind a crash. -/
theorem crash_at {d : Dk} (h : rightB d = true) (keep : List Int) {n : Nat} (hn : n < d.sec.length) : atS (crashD d keep).sec n = atS d.sec n ∨ ∃ x ∈ d.cache, x.at_ = n ∧ x.data = atS (crashD d keep).sec n := by
  have hx : ∀ x ∈ d.cache, 0 ≤ x.at_ := fun x hx => ((right_parts h).2.2.2 x hx).1
  have e : atS (crashD d keep).sec n = rcAt d.sec[n] d.cache (fun (i : Nat) => keep.contains (i : Int)) n d.cache.length := by
    unfold crashD
    rw [if_pos h]
    have := perfTo_get (p := fun (i : Nat) => keep.contains (i : Int)) hx hn
    unfold atS perf
    rw [List.getD_eq_getElem?_getD, List.getElem?_eq_getElem (by rw [perfTo_length]; exact hn)]
    exact this
  have e2 : atS d.sec n = d.sec[n] := by unfold atS; rw [List.getD_eq_getElem?_getD, List.getElem?_eq_getElem hn]; rfl
  rw [e, e2]
  exact rcAt_from _ _ _ _ _ (Nat.le_refl _)
theorem crash_right {d : Dk} (h : rightB d = true) (keep : List Int) : rightB (crashD d keep) = true ∧ (crashD d keep).cache = [] ∧ (crashD d keep).sec.length = d.sec.length := by
  unfold crashD
  rw [if_pos h]
  exact ⟨right_perf _ h, rfl, perfTo_length _ _ _ _⟩

/-- The writes of the entries. -/
def entW (l : List Wr) : Nat → List Wr
  | 0 => []
  | k + 1 => entW l k ++ [⟨1 + 2 * (k : Int), dst (atW l k).at_.toNat⟩, ⟨2 + 2 * (k : Int), (atW l k).data⟩]
theorem entTo_w (l : List Wr) : ∀ k, entTo l k = (entW l k).map wop
  | 0 => rfl
  | k + 1 => by rw [entTo, entW, List.map_append, entTo_w l k]; rfl
def hdrOf (l : List Wr) : ByteArray := hdr l.length ⟨(allTo l l.length).toArray⟩
theorem hdrOf_size (l : List Wr) : (hdrOf l).size = 64 := hdr_size _ _
def tailOps (l : List Wr) : List WOp := l.map wop ++ opF :: ([(⟨0, zerosB 64⟩ : Wr)].map wop ++ opF :: [])
theorem planOps_eq (l : List Wr) : planOps l = (entW l l.length).map wop ++ opF :: ([(⟨0, hdrOf l⟩ : Wr)].map wop ++ opF :: tailOps l) := by
  unfold planOps tailOps
  rw [entTo_w]
  simp [wop, hdrOf]
theorem entW_mem {l : List Wr} : ∀ {k : Nat} {x : Wr}, x ∈ entW l k → ∃ i, i < k ∧ (x = ⟨1 + 2 * (i : Int), dst (atW l i).at_.toNat⟩ ∨ x = ⟨2 + 2 * (i : Int), (atW l i).data⟩)
  | 0, _, h => by cases h
  | k + 1, x, h => by
    rw [entW, List.mem_append] at h
    rcases h with h | h
    · obtain ⟨i, hi, h1⟩ := entW_mem h
      exact ⟨i, by omega, h1⟩
    · simp only [List.mem_cons, List.not_mem_nil, or_false] at h
      exact ⟨k, by omega, h⟩
theorem atW_mem {l : List Wr} {k : Nat} (h : k < l.length) : atW l k ∈ l := by
  unfold atW
  rw [List.getD_eq_getElem?_getD, List.getElem?_eq_getElem h]
  exact List.getElem_mem h
theorem okW_parts {d : Dk} {x : Wr} (h : okW d x = true) : 61 ≤ x.at_ ∧ x.at_ < d.sec.length ∧ x.data.size = 64 := by
  simp only [okW, Bool.and_eq_true, decide_eq_true_eq, beq_iff_eq] at h
  exact ⟨h.1.1, h.1.2, h.2⟩
/-- A transaction that may be. -/
structure Ok (d : Dk) (l : List Wr) : Prop where
  right : rightB d = true
  len : 61 < d.sec.length
  pos : 0 < l.length
  few : l.length ≤ 30
  all : ∀ x ∈ l, 61 ≤ x.at_ ∧ x.at_ < d.sec.length ∧ x.data.size = 64
theorem ok_of {d : Dk} {l : List Wr} (h : planErr d l = 0) : Ok d l := by
  unfold planErr at h
  split at h
  · cases h
  · rename_i h1
    split at h
    · cases h
    · rename_i h2
      split at h
      · cases h
      · rename_i h3
        have hs : suitsB d = true := by
          rcases Bool.eq_false_or_eq_true (suitsB d) with e | e
          · exact e
          · exact absurd (.inl e) h1
        simp only [suitsB, Bool.and_eq_true, decide_eq_true_eq] at hs
        have ha : l.all (okW d) = true := by simpa using h2
        exact ⟨hs.2, hs.1, Nat.pos_of_ne_zero (fun e => h1 (.inr e)), by omega, fun x hx => okW_parts (List.all_eq_true.1 ha x hx)⟩
section
variable {d : Dk} {l : List Wr}
theorem Ok.ent (h : Ok d l) {n : Nat} (hn : n = d.sec.length) : ∀ x ∈ entW l l.length, fitsB x n = true := by
  subst hn
  intro x hx
  obtain ⟨i, hi, rfl | rfl⟩ := entW_mem hx
  · have := h.few; have := h.len
    exact fits_mk (by simp only; omega) (by simp only; omega) (dst_size _)
  · have := h.few; have := h.len
    exact fits_mk (by simp only; omega) (by simp only; omega) (h.all _ (atW_mem hi)).2.2
theorem Ok.body (h : Ok d l) {n : Nat} (hn : n = d.sec.length) : ∀ x ∈ l, fitsB x n = true := by
  subst hn
  intro x hx
  obtain ⟨h1, h2, h3⟩ := h.all x hx
  exact fits_mk (by omega) h2 h3
theorem Ok.head (h : Ok d l) {n : Nat} (hn : n = d.sec.length) (s : ByteArray) (hs : s.size = 64) : ∀ x ∈ [(⟨0, s⟩ : Wr)], fitsB x n = true := by
  subst hn
  intro x hx
  rw [List.mem_singleton] at hx
  subst hx
  have := h.len
  exact fits_mk (by simp only; omega) (by simp only; omega) hs
/-- The disk behind a commit. -/
def doneD (d : Dk) (l : List Wr) : Dk := ⟨setL (setL (setL (setL (viewD d) (entW l l.length)) [⟨0, hdrOf l⟩]) l) [⟨0, zerosB 64⟩], []⟩
theorem Ok.step1 (h : Ok d l) : rightB ⟨setL (viewD d) (entW l l.length), []⟩ = true := by
  have := right_flush (right_app h.right (h.ent rfl))
  rwa [show viewD ⟨d.sec, d.cache ++ entW l l.length⟩ = setL (viewD d) (entW l l.length) from setL_app _ _ _] at this
theorem right_setL {s : List ByteArray} {ws : List Wr} (h : rightB ⟨s, []⟩ = true) (hf : ∀ x ∈ ws, fitsB x s.length = true) : rightB ⟨setL s ws, []⟩ = true := by
  have := right_flush (right_app (d := ⟨s, []⟩) h hf)
  rwa [show viewD ⟨s, [] ++ ws⟩ = setL s ws from rfl] at this
theorem commit_run (h : Ok d l) : runO d (planOps l) (planOps l).length = doneD d l := by
  rw [run_all, planOps_eq]
  have l1 : (setL (viewD d) (entW l l.length)).length = d.sec.length := by rw [setL_len, view_len]
  have r1 := h.step1
  rw [fold_group h.right (h.ent rfl), fold_group r1 (h.head l1 _ (hdrOf_size l))]
  have l2 : (setL (setL (viewD d) (entW l l.length)) [⟨0, hdrOf l⟩]).length = d.sec.length := by rw [setL_len, l1]
  have r2 := right_setL r1 (h.head l1 _ (hdrOf_size l))
  unfold tailOps
  show List.foldl stepO ⟨setL (setL (viewD d) (entW l l.length)) [⟨0, hdrOf l⟩], []⟩ _ = _
  have l3 : (setL (setL (setL (viewD d) (entW l l.length)) [⟨0, hdrOf l⟩]) l).length = d.sec.length := by rw [setL_len, l2]
  have r3 := right_setL r2 (h.body l2)
  rw [fold_group r2 (h.body l2)]
  show List.foldl stepO ⟨setL (setL (setL (viewD d) (entW l l.length)) [⟨0, hdrOf l⟩]) l, []⟩ _ = _
  rw [fold_group r3 (h.head l3 _ (zerosB_size 64))]
  rfl
theorem readTo_app (at_ : Int) (s : ByteArray) (a b : List Wr) : readTo at_ s (a ++ b) = readTo at_ (readTo at_ s a) b := by simp [readTo]
theorem ent_no {i : Nat} (hi : 61 ≤ i) (hf : l.length ≤ 30) : ∀ x ∈ entW l l.length, x.at_ ≠ (i : Int) := by
  intro x hx
  obtain ⟨k, hk, rfl | rfl⟩ := entW_mem hx
  · simp only; omega
  · simp only; omega
theorem ent_nn (k : Nat) : ∀ x ∈ entW l k, 0 ≤ x.at_ := by
  intro x hx
  obtain ⟨k, hk, rfl | rfl⟩ := entW_mem hx
  · simp only; omega
  · simp only; omega
theorem one_no {i : Nat} (hi : i ≠ 0) (s : ByteArray) : ∀ x ∈ [(⟨0, s⟩ : Wr)], x.at_ ≠ (i : Int) := by
  intro x hx
  rw [List.mem_singleton] at hx
  subst hx
  simp only; omega
theorem one_nn (s : ByteArray) : ∀ x ∈ [(⟨0, s⟩ : Wr)], 0 ≤ x.at_ := by
  intro x hx
  rw [List.mem_singleton] at hx
  subst hx
  exact Int.le_refl _
theorem Ok.nn (h : Ok d l) : ∀ x ∈ l, 0 ≤ x.at_ := fun x hx => by have := (h.all x hx).1; omega
theorem view_at {d : Dk} (h : rightB d = true) {i : Nat} (hi : i < d.sec.length) : atS (viewD d) i = readD d i := setL_at (fun x hx => ((right_parts h).2.2.2 x hx).1) hi
theorem done_at (h : Ok d l) {i : Nat} (h1 : 61 ≤ i) (h2 : i < d.sec.length) : atS (doneD d l).sec i = readTo i (readD d i) l := by
  have l1 : (setL (viewD d) (entW l l.length)).length = d.sec.length := by rw [setL_len, view_len]
  have l2 : (setL (setL (viewD d) (entW l l.length)) [⟨0, hdrOf l⟩]).length = d.sec.length := by rw [setL_len, l1]
  have l3 : (setL (setL (setL (viewD d) (entW l l.length)) [⟨0, hdrOf l⟩]) l).length = d.sec.length := by rw [setL_len, l2]
  unfold doneD
  rw [setL_at (one_nn _) (by rw [l3]; exact h2), readTo_none (one_no (by omega) _), setL_at h.nn (by rw [l2]; exact h2), setL_at (one_nn _) (by rw [l1]; exact h2), readTo_none (one_no (by omega) _),
    setL_at (ent_nn _) (by rw [view_len]; exact h2), readTo_none (ent_no h1 h.few), view_at h.right h2]
theorem done_len (d : Dk) (l : List Wr) : (doneD d l).sec.length = d.sec.length := by
  unfold doneD; rw [setL_len, setL_len, setL_len, setL_len, view_len]
theorem done_zero (h : Ok d l) : atS (doneD d l).sec 0 = zerosB 64 := by
  have l3 : (setL (setL (setL (viewD d) (entW l l.length)) [⟨0, hdrOf l⟩]) l).length = d.sec.length := by rw [setL_len, setL_len, setL_len, view_len]
  unfold doneD
  rw [setL_at (one_nn _) (by rw [l3]; have := h.len; omega)]
  rfl
theorem done_right (h : Ok d l) : rightB (doneD d l) = true := by
  rw [← commit_run h, run_all]
  exact (fold_right _ h.right).1
end
end Go.Proofs.YtagpimahicgkmaaDoor
